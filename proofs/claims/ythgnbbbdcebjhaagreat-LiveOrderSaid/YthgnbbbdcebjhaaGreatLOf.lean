/- what of V1 V2 V2b V3 VQ VA VB VC VD VE VF VG VH VI VJ VK VL VR VS VU VV VT VW VX VY VAA VM VN VTB VTC VTD VTE W1 W2 W3 W4 D0 DB DA DC DD DE DF DG DH DI DJ DK DL DM DN DO DP EA EB EC ED EE EF EFa EFb EFc EFd EFe EG EH EJ EI EM EN EO EP EQ is leant on -/
import Derived.Test.YthgnbbbdcebjhaaGreatLOe
set_option linter.unusedVariables false
set_option linter.unusedSimpArgs false
set_option maxRecDepth 100000
set_option maxHeartbeats 4000000
namespace Go.Proofs.YthgnbbbdcebjhaaGreat
open Go Go.RowKit Go.BigFrame
section
section
variable {T : Tr} {d : Nat → Nat}
theorem WF.pre_self (hw : WF T d) (id : Int) : id ∈ T.pre id := by rw [hw.pre_step]; exact List.mem_cons_self
theorem WF.pre_kid (hw : WF T d) {id k : Int} (hk : k ∈ T.kidsOf id) : ∀ x ∈ T.pre k, x ∈ T.pre id := by
  intro x hx
  rw [hw.pre_step id]
  exact List.mem_cons_of_mem _ (List.mem_flatMap.2 ⟨k, hk, hx⟩)
theorem WF.pre_trans (hw : WF T d) : ∀ o, ∀ y ∈ T.pre o, ∀ x ∈ T.pre y, x ∈ T.pre o := by
  refine hw.rise _ fun o ih y hy x hx => ?_
  rw [hw.pre_step o] at hy
  rcases List.mem_cons.1 hy with rfl | hy
  · exact hx
  · obtain ⟨k, hk, hyk⟩ := List.mem_flatMap.1 hy
    exact hw.pre_kid hk x (ih k hk y hyk x hx)
theorem WF.up_kid (hw : WF T d) {id : Int} (h : 0 ≤ T.up id) : id ∈ T.kidsOf (T.up id) := by
  obtain ⟨j, _, h2, _⟩ := hw.idx_kid h
  exact List.mem_of_getElem? h2
theorem WF.win_pre (hw : WF T d) {o : Int} (ho : ∃ od, T.get? o = some od) : ∀ id, (∃ nd, T.get? id = some nd) → (T.win id o = true ↔ id ∈ T.pre o) := by
  obtain ⟨od, ho⟩ := ho
  intro id hg
  constructor
  · revert hg
    revert id
    refine hw.down _ (fun id h hg hwn => ?_) (fun id h ih hg hwn => ?_)
    · obtain ⟨nd, hg⟩ := hg
      rw [hw.win_step hg, hw.win_none (Tr.get_neg T (show T.up id < 0 by omega)), Bool.or_false, decide_eq_true_eq] at hwn
      rw [hwn]; exact hw.pre_self o
    · obtain ⟨nd, hg⟩ := hg
      rw [hw.win_step hg, Bool.or_eq_true, decide_eq_true_eq] at hwn
      rcases hwn with e | e
      · rw [e]; exact hw.pre_self o
      · exact hw.pre_trans _ _ (ih (hw.up_get h) e) _ (hw.pre_kid (hw.up_kid h) _ (hw.pre_self id))
  · intro hm
    obtain ⟨_, h2, q, h3⟩ := hw.pre_in o ⟨od, ho⟩ id hm
    exact (hw.win_iff ho id hg).2 ⟨q, h3, h2⟩
theorem WF.mem_all (hw : WF T d) {o : Int} {od : Nd} (ho : T.get? o = some od) {n : Int} {nd : Nd} (hn : T.get? n = some nd) : n ∈ T.allOf o ↔ T.win n o = true := by
  unfold Tr.allOf
  rw [ho]
  exact (hw.win_pre ⟨od, ho⟩ n ⟨nd, hn⟩).symm
end
def InsTold (T T' : Tr) (p at' k er : Int) : Prop := (er ≠ 0 ∧ T' = T) ∨ (er = 0 ∧ ∃ (p' a' k' : Nat) (pd kd : Nd), p = p' ∧ at' = a' ∧ k = k' ∧ T.nodes[p']? = some (some pd) ∧ T.nodes[k']? = some (some kd) ∧ pd.tag ≠ 0 ∧ p' ≠ k' ∧ kd.parent = -1 ∧ a' ≤ pd.kids.length ∧ T' = T.link p' a' k' pd kd)
def RemTold (T T' : Tr) (id er : Int) : Prop := (er ≠ 0 ∧ T' = T) ∨ (er = 0 ∧ ∃ (p' k' : Nat) (pd kd : Nd), id = k' ∧ T.nodes[p']? = some (some pd) ∧ T.nodes[k']? = some (some kd) ∧ kd.parent = (p' : Int) ∧ (k' : Int) ∈ pd.kids ∧ p' ≠ k' ∧ T' = T.unlink p' k' pd kd)
def DropTold (T T' : Tr) (id er : Int) : Prop := (er ≠ 0 ∧ T' = T) ∨ (er = 0 ∧ ∃ (i : Nat) (nd : Nd), id = i ∧ T.nodes[i]? = some (some nd) ∧ nd.parent = -1 ∧ i ≠ 0 ∧ T' = T.rid fun j => T.within j i)
def TextTold (T T' : Tr) (id : Int) (s : ByteArray) (er : Int) : Prop := (er ≠ 0 ∧ T' = T) ∨ (er = 0 ∧ ∃ (i : Nat) (nd : Nd), id = i ∧ T.nodes[i]? = some (some nd) ∧ nd.tag = 0 ∧ T' = T.setAt i { nd with text := anewB s })
def GraftTold (T T' : Tr) (p at' : Int) (n : PN) (er : Int) : Prop := (er ≠ 0 ∧ T' = T) ∨ (er = 0 ∧ ∃ (p' a' m : Nat) (pd kd : Nd), p = p' ∧ at' = a' ∧ T.nodes[p']? = some (some pd) ∧ pd.tag ≠ 0 ∧ a' ≤ pd.kids.length ∧ T.newId = (m : Int) ∧ (PN.into T n).nodes[m]? = some (some kd) ∧ T' = (PN.into T n).link p' a' m pd kd)
variable {T : Tr}
theorem Text_told (hG : GoodT T) (s : ByteArray) (hs : s.size ≤ 100000) : ∃ (x er : Int) (T' : Tr), GoodT T' ∧ Keeps T T' ∧
    (∀ (w : World) (own : Ow) (ptr : Nat → Nat) (tb : Nat), TreeAt w own ptr tb T → Owned own w → Calls Tryz.prog 31 #[.pointer (some ⟨tb, 0, none⟩), .string s] w (DTwo own w tb x er T')) ∧
    (∀ (w : World) (F : Nat → Prop) (rb : Nat), RefOn w F rb T → Calls Tryz.prog 32 #[.pointer (some ⟨rb, 0, none⟩), .string s] w (RTwoAft F w rb x er T')) := by
  obtain ⟨⟨d, hw⟩, ha⟩ := hG
  by_cases h1 : 8192 < (anewB s).size
  · exact ⟨0, 10, T, ⟨⟨d, hw⟩, ha⟩, Keeps.refl T, fun w own ptr tb hT hO => (Text_long tb s hs h1 w).mono fun e w' h => dtwo_same hT hO h, fun w F rb hR => rText_long s hs h1 hR⟩
  · by_cases h2 : 1 ≤ T.cap - T.count
    · refine ⟨T.newId, 0, _, ⟨⟨_, hw.put ⟨0, [], anewB s, [], -1⟩ rfl rfl (by show (0:Int) ≤ 0; decide) (by show (0:Int) ≤ 16; decide) (by omega) hw.newId_ne⟩, ha.put _ ⟨by simp, by show (anewB s).size ≤ 8192; omega⟩⟩, put_keeps T _, fun w own ptr tb hT hO => Text_ok hT hO hw s hs (by omega) h2, fun w F rb hR => rText_ok s hs (by omega) hR hw (by omega)⟩
    · exact ⟨0, 3, T, ⟨⟨d, hw⟩, ha⟩, Keeps.refl T, fun w own ptr tb hT hO => (Text_full hT hO hw.small s hs (by omega) h2).mono fun e w' h => dtwo_same hT hO h, fun w F rb hR => rText_full s hs (by omega) hR hw (by omega)⟩
theorem Element_told (hG : GoodT T) (tag : Int) (attrs : List (ByteArray × ByteArray)) (hl : attrs.length ≤ 60000) : ∃ (x er : Int) (T' : Tr), GoodT T' ∧ Keeps T T' ∧
    (∀ (w : World) (own : Ow) (ptr : Nat → Nat) (tb : Nat) (av : Value), TreeAt w own ptr tb T → Owned own w → RowRd w 2 av attrs.length (attrCells attrs) → Calls Tryz.prog 45 #[.pointer (some ⟨tb, 0, none⟩), .int .i64 tag, av] w (DTwo own w tb x er T')) ∧
    (∀ (w : World) (F : Nat → Prop) (rb : Nat) (av : Value), RefOn w F rb T → RowRd w 2 av attrs.length (attrCells attrs) → Calls Tryz.prog 46 #[.pointer (some ⟨rb, 0, none⟩), .int .i64 tag, av] w (RTwoAft F w rb x er T')) := by
  obtain ⟨⟨d, hw⟩, ha⟩ := hG
  by_cases h1 : 1 ≤ tag ∧ tag ≤ 16
  · by_cases h2 : 1 ≤ T.cap - T.count
    · exact ⟨T.newId, 0, _, ⟨⟨_, hw.put ⟨tag, attrs, ByteArray.empty, [], -1⟩ rfl rfl (by show 0 ≤ tag; omega) h1.2 (by omega) hw.newId_ne⟩, ha.put _ ⟨hl, by simp⟩⟩, put_keeps T _, fun w own ptr tb av hT hO hr => Element_ok hT hO hw tag h1.1 h1.2 h2 hr hl, fun w F rb av hR hr => rElement_ok tag h1.1 h1.2 hr hl hR hw (by omega)⟩
    · exact ⟨0, 3, T, ⟨⟨d, hw⟩, ha⟩, Keeps.refl T, fun w own ptr tb av hT hO hr => (Element_full hT hw.small tag h1.1 h1.2 h2 av).mono fun e w' h => dtwo_same hT hO h, fun w F rb av hR hr => rElement_full tag h1.1 h1.2 av hR hw (by omega)⟩
  · exact ⟨0, 1, T, ⟨⟨d, hw⟩, ha⟩, Keeps.refl T, fun w own ptr tb av hT hO hr => (Element_arg tb tag h1 av w).mono fun e w' h => dtwo_same hT hO h, fun w F rb av hR hr => rElement_arg tag h1 av hR⟩
theorem Insert_told (hG : GoodT T) (p at' k : Int) : ∃ (er : Int) (T' : Tr), GoodT T' ∧ InsTold T T' p at' k er ∧
    (∀ (w : World) (own : Ow) (ptr : Nat → Nat) (tb : Nat), TreeAt w own ptr tb T → Owned own w → Calls Tryz.prog 72 #[.pointer (some ⟨tb, 0, none⟩), .int .i64 p, .int .i64 at', .int .i64 k] w (ErrAfter own w tb er T')) ∧
    (∀ (w : World) (F : Nat → Prop) (rb : Nat), RefOn w F rb T → Calls Tryz.prog 88 #[.pointer (some ⟨rb, 0, none⟩), .int .i64 p, .int .i64 at', .int .i64 k] w (RErr F w rb er T')) := by
  obtain ⟨⟨d, hw⟩, ha⟩ := hG
  have hg : GoodT T := ⟨⟨d, hw⟩, ha⟩
  cases hp : T.get? p with
  | none => exact ⟨2, T, hg, .inl ⟨by decide, rfl⟩, fun w own ptr tb hT hO => (Insert_none hT (.inl hp)).mono fun e w' h => derr_same hT hO h, fun w F rb hR => rInsert_none hR (.inl hp)⟩
  | some pd =>
    cases hk : T.get? k with
    | none => exact ⟨2, T, hg, .inl ⟨by decide, rfl⟩, fun w own ptr tb hT hO => (Insert_none hT (.inr hk)).mono fun e w' h => derr_same hT hO h, fun w F rb hR => rInsert_none hR (.inr hk)⟩
    | some kd =>
      rcases tag_b (x := pd.tag) with ht | ht
      · exact ⟨6, T, hg, .inl ⟨by decide, rfl⟩, fun w own ptr tb hT hO => (Insert_kind hT hp hk ht).mono fun e w' h => derr_same hT hO h, fun w F rb hR => rInsert_kind hR hp hk ht⟩
      · by_cases harg : k = 0 ∨ 0 ≤ kd.parent ∨ at' < 0 ∨ (pd.kids.length : Int) < at'
        · exact ⟨1, T, hg, .inl ⟨by decide, rfl⟩, fun w own ptr tb hT hO => (Insert_arg hT hp hk ht harg).mono fun e w' h => derr_same hT hO h, fun w F rb hR => rInsert_arg hR hp hk ht harg⟩
        · have hp0 := hp
          have hk0' := hk
          obtain ⟨p', rfl, hpn⟩ := nat_of hp
          obtain ⟨k', rfl, hkn⟩ := nat_of hk
          obtain ⟨a', rfl⟩ := Int.eq_ofNat_of_zero_le (show 0 ≤ at' by omega)
          have hpar : kd.parent = -1 := by
            rcases hw.parent_cases hkn with h | ⟨q, qd, h1, _⟩
            · exact h
            · omega
          have hal : a' ≤ pd.kids.length := by omega
          have hk0 : k' ≠ 0 := by omega
          have hkl := hw.kids_len hpn
          have hwin := hw.win_within (o := (k' : Int)) (p' : Int) ⟨pd, Tr.get_of hpn⟩
          have hdd : (T.pathOf (p' : Int)).length = d p' := by
            have h := hw.path_rank p' ⟨pd, Tr.get_of hpn⟩
            unfold Tr.rank at h
            rw [Tr.get_of hpn] at h
            simp at h
            exact h
          cases hin : T.within p' k' with
          | true => exact ⟨5, T, hg, .inl ⟨by decide, rfl⟩, fun w own ptr tb hT hO => (Insert_loop hT hw hpn hkn ht hk0 hpar hal hin).mono fun e w' h => derr_same hT hO h, fun w F rb hR => rInsert_loop hR hw hp0 hk0' ht (by omega) (by omega) (by omega) (by omega) (by rw [hwin]; exact hin)⟩
          | false =>
            by_cases hdp : T.deep < (d p' : Int) + 1 + T.hgt 50 k'
            · exact ⟨4, T, hg, .inl ⟨by decide, rfl⟩, fun w own ptr tb hT hO => (Insert_deep hT hO hw hpn hkn ht hk0 hpar hal (by omega) hin hdp).mono fun e w' h => derr_same hT hO h, fun w F rb hR => rInsert_deep hR hw hp0 hk0' ht (by omega) (by omega) (by omega) (by omega) (by rw [hwin]; exact hin) (by rw [hdd]; exact hdp)⟩
            · refine ⟨0, T.link p' a' k' pd kd, ⟨⟨_, hw.link hpn hkn (by simpa using ht) hk0 hpar hin (by show (d p' : Int) + 1 + T.hgt 50 k' ≤ T.deep; omega)⟩, ?_⟩, .inr ⟨rfl, p', a', k', pd, kd, rfl, rfl, rfl, hpn, hkn, by simpa using ht, (fun e => by subst e; rw [hw.within_self hpn] at hin; cases hin), hpar, hal, rfl⟩, fun w own ptr tb hT hO => Insert_ok hT hO hw hpn hkn ht hk0 hpar hal (by omega) hin (by omega) (insertsAt_any _ _), fun w F rb hR => ?_⟩
              · rw [Tr.link_eq]
                exact ha.set2 (show NdOk pd from ha _ _ hpn) (show NdOk kd from ha _ _ hkn)
              · have hpk : p' ≠ k' := fun e => by
                  subst e
                  have := hw.within_self hpn
                  rw [this] at hin
                  cases hin
                exact rInsert_ok hR hw hpn hkn ht hk0 (by omega) hal hpk (by rw [hwin]; exact hin) (by rw [hdd]; show (d p' : Int) + 1 + T.hgt 50 k' ≤ T.deep; omega)
theorem Remove_told (hG : GoodT T) (id : Int) : ∃ (er : Int) (T' : Tr), GoodT T' ∧ RemTold T T' id er ∧
    (∀ (w : World) (own : Ow) (ptr : Nat → Nat) (tb : Nat), TreeAt w own ptr tb T → Owned own w → Calls Tryz.prog 55 #[.pointer (some ⟨tb, 0, none⟩), .int .i64 id] w (ErrAfter own w tb er T')) ∧
    (∀ (w : World) (F : Nat → Prop) (rb : Nat), RefOn w F rb T → Calls Tryz.prog 93 #[.pointer (some ⟨rb, 0, none⟩), .int .i64 id] w (RErr F w rb er T')) := by
  obtain ⟨⟨d, hw⟩, ha⟩ := hG
  have hg : GoodT T := ⟨⟨d, hw⟩, ha⟩
  cases hi : T.get? id with
  | none => exact ⟨2, T, hg, .inl ⟨by decide, rfl⟩, fun w own ptr tb hT hO => (Remove_none hT hi).mono fun e w' h => derr_same hT hO h, fun w F rb hR => rRemove_none hR hi⟩
  | some nd =>
    obtain ⟨i, rfl, hn⟩ := nat_of hi
    rcases hw.parent_cases hn with h | ⟨p, pd, h1, h2, h3, h4⟩
    · exact ⟨1, T, hg, .inl ⟨by decide, rfl⟩, fun w own ptr tb hT hO => (Remove_root hT hi (by omega)).mono fun e w' h => derr_same hT hO h, fun w F rb hR => rRemove_root hR hi (by omega)⟩
    · have := hw.kids_len h2
      exact ⟨0, _, ⟨⟨_, hw.unlink h2 hn h1⟩, ha.set2 (show NdOk pd from ha _ _ h2) (show NdOk nd from ha _ _ hn)⟩, .inr ⟨rfl, p, i, pd, nd, rfl, h2, hn, h1, h3, h4, rfl⟩, fun w own ptr tb hT hO => Remove_ok hT hO h2 hn h1 h4 (by omega) h3, fun w F rb hR => rRemove_ok hR hw h2 hn h1 h3 h4⟩
theorem Drop_told (hG : GoodT T) (id : Int) : ∃ (er : Int) (T' : Tr), GoodT T' ∧ DropTold T T' id er ∧
    (∀ (w : World) (own : Ow) (ptr : Nat → Nat) (tb : Nat), TreeAt w own ptr tb T → Owned own w → Calls Tryz.prog 95 #[.pointer (some ⟨tb, 0, none⟩), .int .i64 id] w (ErrAfter own w tb er T')) ∧
    (∀ (w : World) (F : Nat → Prop) (rb : Nat), RefOn w F rb T → Calls Tryz.prog 98 #[.pointer (some ⟨rb, 0, none⟩), .int .i64 id] w (RErr F w rb er T')) := by
  obtain ⟨⟨d, hw⟩, ha⟩ := hG
  have hg : GoodT T := ⟨⟨d, hw⟩, ha⟩
  cases hi : T.get? id with
  | none => exact ⟨2, T, hg, .inl ⟨by decide, rfl⟩, fun w own ptr tb hT hO => (Drop_none hT hO hi).mono fun e w' h => derr_same hT hO h, fun w F rb hR => rDrop_none hR hi⟩
  | some nd =>
    by_cases harg : id = 0 ∨ 0 ≤ nd.parent
    · exact ⟨1, T, hg, .inl ⟨by decide, rfl⟩, fun w own ptr tb hT hO => (Drop_arg hT hO hi harg).mono fun e w' h => derr_same hT hO h, fun w F rb hR => rDrop_arg hR hi harg⟩
    · obtain ⟨i, rfl, hn⟩ := nat_of hi
      have hp : nd.parent = -1 := by
        rcases hw.parent_cases hn with h | ⟨p, pd, h1, _⟩
        · exact h
        · omega
      exact ⟨0, _, ⟨⟨_, hw.rid hn hp (by omega)⟩, ha.rid _⟩, .inr ⟨rfl, i, nd, rfl, hn, hp, by omega, rfl⟩, fun w own ptr tb hT hO => Drop_ok hT hO hw hn (by omega) hp, fun w F rb hR => rDrop_ok hR hw hn (by omega) hp⟩
theorem SetText_told (hG : GoodT T) (id : Int) (s : ByteArray) (hs : s.size ≤ 100000) : ∃ (er : Int) (T' : Tr), GoodT T' ∧ TextTold T T' id s er ∧
    (∀ (w : World) (own : Ow) (ptr : Nat → Nat) (tb : Nat), TreeAt w own ptr tb T → Owned own w → Calls Tryz.prog 127 #[.pointer (some ⟨tb, 0, none⟩), .int .i64 id, .string s] w (ErrAfter own w tb er T')) ∧
    (∀ (w : World) (F : Nat → Prop) (rb : Nat) (tag : Int) (av : Value), RefOn w F rb T → Calls Tryz.prog 139 #[.pointer (some ⟨rb, 0, none⟩), .int .i64 1, .int .i64 id, .int .i64 tag, .string s, av] w (RErr F w rb er T')) := by
  obtain ⟨⟨d, hw⟩, ha⟩ := hG
  have hg : GoodT T := ⟨⟨d, hw⟩, ha⟩
  cases hi : T.get? id with
  | none => exact ⟨2, T, hg, .inl ⟨by decide, rfl⟩, fun w own ptr tb hT hO => (SetText_none hT hO hi s hs).mono fun e w' h => derr_same hT hO h, fun w F rb tag av hR => rSet_none hR hi 1 tag s av⟩
  | some nd =>
    by_cases ht : nd.tag = 0
    · have htb : (nd.tag == 0) = true := by simp [ht]
      by_cases hl : 8192 < (anewB s).size
      · exact ⟨10, T, hg, .inl ⟨by decide, rfl⟩, fun w own ptr tb hT hO => (SetText_long hT hO hi (by simp [ht]) s hs hl).mono fun e w' h => derr_same hT hO h, fun w F rb tag av hR => rSet_long hR hi htb tag s av hs hl⟩
      · have hi0 := hi
        obtain ⟨i, rfl, hn⟩ := nat_of hi
        have hx := hw.text i nd hn
        exact ⟨0, T.setAt i { nd with text := anewB s }, ⟨⟨_, hw.setAt (nd' := { nd with text := anewB s }) hn rfl rfl hx.1 hx.2.1 (fun h => h) (fun _ => rfl)⟩, ha.setAt ⟨(ha _ _ hn).1, by show (anewB s).size ≤ 8192; omega⟩⟩, .inr ⟨rfl, i, nd, rfl, hn, ht, rfl⟩, fun w own ptr tb hT hO => SetText_ok hT hO hn (by simp [ht]) s hs (by omega), fun w F rb tag av hR => rSet_text hR hi0 htb tag s av hs (by omega)⟩
    · have htb : (nd.tag == 0) = false := by simpa using ht
      exact ⟨6, T, hg, .inl ⟨by decide, rfl⟩, fun w own ptr tb hT hO => (SetText_kind hT hO hi (by simpa using ht) s hs).mono fun e w' h => derr_same hT hO h, fun w F rb tag av hR => rSet_kind hR hi 1 tag s av (by rw [htb]; rfl)⟩
theorem Graft_told (hG : GoodT T) (p at' : Int) (n : PN) (hsh : n.short = true) (hsz : n.size ≤ 90000) : ∃ (x er : Int) (T' : Tr), GoodT T' ∧ GraftTold T T' p at' n er ∧
    (∀ (g w : World) (own : Ow) (ptr : Nat → Nat) (tb : Nat) (nv : Value), TreeAt w own ptr tb T → Owned own w → RdN g n nv → Apart g own w → Calls Tryz.prog 80 #[.pointer (some ⟨tb, 0, none⟩), .int .i64 p, .int .i64 at', nv] w (DTwo own w tb x er T')) ∧
    (∀ (g w : World) (F : Nat → Prop) (rb : Nat) (nv : Value), RefOn w F rb T → RdN g n nv → RApart g F w → Calls Tryz.prog 101 #[.pointer (some ⟨rb, 0, none⟩), .int .i64 p, .int .i64 at', nv] w (RTwoAft F w rb x er T')) := by
  obtain ⟨⟨d, hw⟩, ha⟩ := hG
  have hg : GoodT T := ⟨⟨d, hw⟩, ha⟩
  cases hp : T.get? p with
  | none =>
    refine ⟨0, 2, T, hg, .inl ⟨by decide, rfl⟩, fun g w own ptr tb nv hT hO hr hap => ?_, fun g w F rb nv hR hr hap => ?_⟩
    · obtain ⟨av, kv, rfl, _, _⟩ := hr.open
      exact (Graft_none hT hO hp _ _ _ _).mono fun e w' h => dtwo_same hT hO h
    · obtain ⟨av, kv, rfl, _, _⟩ := hr.open
      exact rGraft_none hR hp _ _ _ _
  | some pd =>
    rcases tag_b (x := pd.tag) with ht | ht
    · refine ⟨0, 6, T, hg, .inl ⟨by decide, rfl⟩, fun g w own ptr tb nv hT hO hr hap => ?_, fun g w F rb nv hR hr hap => ?_⟩
      · obtain ⟨av, kv, rfl, _, _⟩ := hr.open
        exact (Graft_kind hT hO hp ht _ _ _ _).mono fun e w' h => dtwo_same hT hO h
      · obtain ⟨av, kv, rfl, _, _⟩ := hr.open
        exact rGraft_kind hR hp ht _ _ _ _
    · by_cases harg : at' < 0 ∨ (pd.kids.length : Int) < at'
      · refine ⟨0, 1, T, hg, .inl ⟨by decide, rfl⟩, fun g w own ptr tb nv hT hO hr hap => ?_, fun g w F rb nv hR hr hap => ?_⟩
        · obtain ⟨av, kv, rfl, _, _⟩ := hr.open
          exact (Graft_arg hT hO hp ht harg _ _ _ _).mono fun e w' h => dtwo_same hT hO h
        · obtain ⟨av, kv, rfl, _, _⟩ := hr.open
          exact rGraft_arg hR hp ht harg _ _ _ _
      · obtain ⟨p', rfl, hpn⟩ := nat_of hp
        obtain ⟨a', rfl⟩ := Int.eq_ofNat_of_zero_le (show 0 ≤ at' by omega)
        have hal : a' ≤ pd.kids.length := by omega
        by_cases he : (PN.look 0 ⟨0, 0, 0⟩ n).e = 0
        · have hok : n.ok = true := ((look_spec n 0 ⟨0, 0, 0⟩).2.2.1 he).2
          by_cases hdp : T.deep < (d p' : Int) + 1 + n.high
          · exact ⟨0, 4, T, hg, .inl ⟨by decide, rfl⟩, fun g w own ptr tb nv hT hO hr hap => (Graft_deep hT hO hw hpn ht hal hr hap hsh hsz hok hdp).mono fun e w' h => dtwo_same hT hO h, fun g w F rb nv hR hr hap => rGraft_deep hR hw hpn ht hal hr hap hsh hsz hok hdp⟩
          · by_cases hf : (n.size : Int) ≤ T.cap - T.count
            · obtain ⟨dz, m, hm1, hm0, hm2, hPut⟩ := into_ok n hok T d hw (by omega) (by omega)
              obtain ⟨kd, hk1, hk2⟩ := hPut.node
              have hpm : p' ≠ m := fun e => hm2 pd (e ▸ hpn)
              obtain ⟨hap1, hap2⟩ := hPut.apart hw hm2 p' pd hpn
              have hgr : T.grafted p' a' pd n = (PN.into T n).link p' a' m pd kd := by
                unfold Tr.grafted; rw [hm1, Int.toNat_natCast, look_of hk1]
              have hi := into_attrs n hok hsh T ha
              refine ⟨T.newId, 0, T.grafted p' a' pd n, ⟨⟨_, hgr ▸ hPut.wf.link (hPut.old p' pd hpm hpn) hk1 (by simpa using ht) hm0 hk2 hap1 (by rw [hap2, hPut.deep, hPut.high]; omega)⟩, ?_⟩, .inr ⟨rfl, p', a', m, pd, kd, rfl, rfl, hpn, by simpa using ht, hal, hm1, hk1, hgr⟩, fun g w own ptr tb nv hT hO hr hap => Graft_ok hT hO hw hpn ht hal hr hap hsh hsz hok (by omega) hf, fun g w F rb nv hR hr hap => rGraft_ok hR hw hpn ht hal hr hap hsh hsz hok (by omega) hf⟩
              rw [hgr, Tr.link_eq]
              exact hi.set2 (show NdOk pd from ha _ _ hpn) (show NdOk kd from hi _ _ hk1)
            · exact ⟨0, 3, T, hg, .inl ⟨by decide, rfl⟩, fun g w own ptr tb nv hT hO hr hap => (Graft_full hT hO hw hpn ht hal hr hap hsh hsz hok (by omega) hf).mono fun e w' h => dtwo_same hT hO h, fun g w F rb nv hR hr hap => rGraft_full hR hw hpn ht hal hr hap hsh hsz hok (by omega) hf⟩
        · exact ⟨0, (PN.look 0 ⟨0, 0, 0⟩ n).e, T, hg, .inl ⟨he, rfl⟩, fun g w own ptr tb nv hT hO hr hap => (Graft_bad hT hO hw hpn ht hal hr hap hsh hsz he).mono fun e w' h => dtwo_same hT hO h, fun g w F rb nv hR hr hap => by rw [look_e0] at he ⊢; exact rGraft_bad hR hw hpn ht hal hr hap hsh hsz he⟩
end
def iOf (H : List Hd) : List Int := H.map fun x => if x.off = 0 then 1 else 0
def pOf (H : List Hd) : List (Int × Int) := H.map fun x => (x.node, x.at')
structure StOk (T : Tr) (H : List Hd) : Prop where
  good : GoodT T
  may : mayH T H
  offs : ∀ x ∈ H, x.off = 0 ∨ x = ⟨0, 0, 1⟩
theorem iOf_len (H : List Hd) : (iOf H).length = H.length := by simp [iOf]
theorem iOf_01 (H : List Hd) : ∀ i ∈ iOf H, i = 0 ∨ i = 1 := by
  intro i hi
  obtain ⟨x, _, rfl⟩ := List.mem_map.1 hi
  by_cases h : x.off = 0
  · exact .inr (if_pos h)
  · exact .inl (if_neg h)
theorem iOf_moved (f : Int → Int → Int × Int) (H : List Hd) : iOf (H.map (moved f)) = iOf H := by
  unfold iOf
  rw [List.map_map]
  refine List.map_congr_left fun x _ => ?_
  show (if (moved f x).off = 0 then _ else _) = _
  unfold moved
  by_cases h : x.off = 0
  · rw [if_pos h, if_pos rfl, if_pos h]
  · rw [if_neg h]
theorem chAll_moved (f : Int → Int → Int × Int) (H : List Hd) : chAll f (iOf H) (pOf H) = pOf (H.map (moved f)) := by
  unfold chAll iOf pOf
  induction H with
  | nil => rfl
  | cons x H ih =>
    simp only [List.map_cons, List.zipWith_cons_cons, ih]
    congr 1
    unfold chP moved
    by_cases h : x.off = 0
    · rw [if_pos h, if_neg (by decide), if_pos h]
    · rw [if_neg h, if_pos rfl, if_neg h]
theorem movedD_is (er : Int) (f : Int → Int → Int × Int) (H : List Hd) : movedD er f (iOf H) (pOf H) = pOf (movedIf er f H) ∧ iOf (movedIf er f H) = iOf H ∧ (movedIf er f H).length = H.length := by
  unfold movedD movedIf
  by_cases h : er = 0
  · rw [if_pos h, if_pos h]; exact ⟨chAll_moved f H, iOf_moved f H, by simp⟩
  · rw [if_neg h, if_neg h]; exact ⟨rfl, rfl, rfl⟩
theorem offs_moved {H : List Hd} (f : Int → Int → Int × Int) (h : ∀ x ∈ H, x.off = 0 ∨ x = ⟨0, 0, 1⟩) : ∀ x ∈ H.map (moved f), x.off = 0 ∨ x = ⟨0, 0, 1⟩ := by
  intro y hy
  obtain ⟨x, hx, rfl⟩ := List.mem_map.1 hy
  unfold moved
  by_cases h0 : x.off = 0
  · rw [if_pos h0]; exact .inl rfl
  · rw [if_neg h0]; exact h x hx
theorem moved_congr {H : List Hd} {f g : Int → Int → Int × Int} (h : ∀ x ∈ H, x.off = 0 → f x.node x.at' = g x.node x.at') : H.map (moved f) = H.map (moved g) := by
  refine List.map_congr_left fun x hx => ?_
  unfold moved
  by_cases h0 : x.off = 0
  · rw [if_pos h0, if_pos h0, h x hx h0]
  · rw [if_neg h0, if_neg h0]
section
variable {T T' : Tr} {H : List Hd}
theorem len_small (hG : GoodT T) {n : Int} {nd : Nd} (h : T.get? n = some nd) : 0 ≤ n ∧ n ≤ 2000 ∧ 0 ≤ T.lengthOf n ∧ T.lengthOf n ≤ 8192 := by
  obtain ⟨⟨d, hw⟩, ha⟩ := hG
  obtain ⟨h1, h2, h3⟩ := Tr.get_lt h
  have h4 := hw.small.len
  have h5 := hw.text _ nd h3
  have h6 := (ha _ nd h3).2
  have h7 := hw.kids_len h3
  have h8 := runes_le nd.text
  rw [lengthOf_eq, h]
  refine ⟨h1, by omega, ?_, ?_⟩
  · show 0 ≤ (if nd.tag = -1 then _ else if nd.tag = 0 then _ else _)
    split
    · omega
    · split <;> omega
  · show (if nd.tag = -1 then _ else if nd.tag = 0 then _ else _) ≤ (8192 : Int)
    split
    · omega
    · split <;> omega
theorem may_okP (hG : GoodT T) {n a : Int} (h : T.may n a = true) : okI n ∧ okI a := by
  cases hg : T.get? n with
  | none => exact absurd hg (may_got h)
  | some nd =>
    have h1 := len_small hG hg
    have h2 := may_iff.1 h
    unfold okI
    omega
theorem StOk.okH (h : StOk T H) : okH H := fun x hx h0 => may_okP h.good (h.may x hx h0)
theorem StOk.okPl (h : StOk T H) : okPl (pOf H) := by
  intro y hy
  obtain ⟨x, hx, rfl⟩ := List.mem_map.1 hy
  rcases h.offs x hx with h0 | h0
  · exact may_okP h.good (h.may x hx h0)
  · rw [h0]
    show okI 0 ∧ okI 0
    unfold okI
    omega
def PairE (H : List Hd) (T : Tr) (fl fr : FuncId) (la ra : Array Value) (er : Int) (T' : Tr) (H' : List Hd) : Prop :=
  (∀ (w : World) (own : Ow) (ptr : Nat → Nat) (lb tb : Nat) (hv : Value) (hb : Option Nat), LiveAt w own ptr lb tb T hv hb H → Calls Tryz.prog fl (#[.pointer (some ⟨lb, 0, none⟩)] ++ la) w (LErr own lb tb hb w er T' H')) ∧
  (∀ (w : World) (F : Nat → Prop) (xb rb : Nat), DocOn w F xb rb T (iOf H) (pOf H) → Calls Tryz.prog fr (#[.pointer (some ⟨xb, 0, none⟩)] ++ ra) w (DErr F w xb rb er T' (iOf H') (pOf H')))
theorem tag_ne {d : Nat → Nat} (hw : WF T d) {i : Nat} {nd : Nd} (h : T.nodes[i]? = some (some nd)) : nd.tag ≠ -1 := by have := (hw.text i nd h).1; omega
theorem lengthOf_kids {d : Nat → Nat} (hw : WF T d) {p : Nat} {pd : Nd} (hp : T.nodes[p]? = some (some pd)) (ht : pd.tag ≠ 0) : T.lengthOf p = pd.kids.length := by
  rw [lengthOf_eq, Tr.get_of hp]
  show (if pd.tag = -1 then _ else if pd.tag = 0 then _ else _) = _
  rw [if_neg (tag_ne hw hp), if_neg ht]
theorem Insert_both (h : StOk T H) (hl : H.length ≤ 100000) (p q k : Int) : ∃ er T' H', StOk T' H' ∧ H'.length = H.length ∧ InsTold T T' p q k er ∧ H' = movedIf er (insP p q 1) H ∧
    PairE H T 25 33 #[.int .i64 p, .int .i64 q, .int .i64 k] #[.int .i64 p, .int .i64 q, .int .i64 k] er T' H' := by
  obtain ⟨er, T', hG', htold, pd, pr⟩ := Insert_told h.good p q k
  have hok : er = 0 → okI p ∧ okI q ∧ StOk T' (movedIf er (insP p q 1) H) := by
    intro e
    rcases htold with ⟨e2, _⟩ | ⟨_, p', a', k', pd', kd, rfl, rfl, rfl, h1, h2, h3, h4, h5, h6, rfl⟩
    · exact absurd e e2
    · obtain ⟨⟨d, hw⟩, ha⟩ := h.good
      have hs := len_small ⟨⟨d, hw⟩, ha⟩ (Tr.get_of h1)
      have hk := hw.kids_len h1
      obtain ⟨l1, l2⟩ := link_len h1 h2 h4 h3 (tag_ne hw h1) h6
      refine ⟨by unfold okI; omega, by unfold okI; omega, ?_⟩
      subst e
      show StOk _ (if (0 : Int) = 0 then _ else _)
      rw [if_pos rfl]
      exact ⟨hG', h.may.map fun n a hm => may_ins l1 l2 n a hm, offs_moved _ h.offs⟩
  obtain ⟨m1, m2, m3⟩ := movedD_is er (insP p q 1) H
  refine ⟨er, T', _, ?_, m3, htold, rfl, fun w own ptr lb tb hv hb hL => lInsert_any hL hl p q k (fun W x => pd W own ptr tb (hL.ext x).tree (hL.ext x).ownd) fun e => ⟨(hok e).1, (hok e).2.1, h.okH⟩, fun w F xb rb hD => ?_⟩
  · by_cases e : er = 0
    · exact (hok e).2.2
    · rcases htold with ⟨_, rfl⟩ | ⟨e2, _⟩
      · unfold movedIf; rw [if_neg e]; exact h
      · exact absurd e2 e
  · rw [m2, ← m1]
    exact dInsert hD (by rw [iOf_len]; exact hl) p q k (fun F0 hR => pr w F0 rb hR) fun e => ⟨(hok e).1, (hok e).2.1, h.okPl⟩
end
section
variable {T T' : Tr} {d d' : Nat → Nat} {p k a : Int}
theorem Linked.win_new (h : Linked T T' p a k) (hw : WF T d) (hkd : ∃ kd, T.get? k = some kd) {n : Int} (hn : ∃ nd, T.get? n = some nd) : T.win n k = true ↔ T.rootOf n = k := by
  obtain ⟨kd, hkd⟩ := hkd
  rw [hw.win_iff hkd n hn]
  have pk : T.pathOf k = [] := by rw [hw.path_step, if_neg h.root]
  have rk : T.rootOf k = k := by rw [hw.root_step, if_neg h.root]
  rw [pk, rk]
  exact ⟨fun ⟨q, _, e⟩ => e, fun e => ⟨T.pathOf n, by simp, e⟩⟩
theorem Linked.win_old (h : Linked T T' p a k) (hw : WF T d) (hw' : WF T' d') (hkd : ∃ kd, T'.get? k = some kd) {n : Int} (hn : ∃ nd, T'.get? n = some nd) : T'.win n k = true ↔ T.rootOf n = k := by
  obtain ⟨kd, hkd⟩ := hkd
  rw [hw'.win_iff hkd n hn]
  constructor
  · rintro ⟨q, h1, h2⟩
    refine Decidable.byContradiction fun hne => ?_
    obtain ⟨o1, o2⟩ := h.out_ hw hw' n hne
    rw [(h.path_k hw hw').1, List.append_assoc] at h1
    rw [(h.path_k hw hw').2] at h2
    rcases o2 with ⟨_, j, t, e2, e3⟩ | ⟨e1, e2⟩
    · rw [e3] at h1
      have h3 : (if a ≤ j then j + 1 else j) :: t = a :: q := List.append_cancel_left h1
      injection h3 with ha _
      split at ha <;> omega
    · rw [e2] at h1
      exact e1 (o1 ▸ h2) ⟨a, q, h1⟩
  · intro e
    obtain ⟨i1, i2⟩ := h.in_ hw hw' n e
    exact ⟨T.pathOf n, i1, i2⟩
theorem got_of_len {n : Int} (h : 0 ≤ T.lengthOf n) : ∃ nd, T.get? n = some nd := by
  cases hg : T.get? n with
  | none => rw [lengthOf_eq, hg] at h; exact absurd h (by decide)
  | some nd => exact ⟨nd, rfl⟩
end
section
variable {T T' : Tr} {H : List Hd}
theorem may_got' {n a : Int} (h : T.may n a = true) : ∃ nd, T.get? n = some nd := got_of_len (by have := may_iff.1 h; omega)
theorem Remove_both (h : StOk T H) (hl : H.length ≤ 100000) (id : Int) : ∃ er T' H', StOk T' H' ∧ H'.length = H.length ∧ RemTold T T' id er ∧ H' = movedIf er (remP T' id (T.up id) (T.idx id)) H ∧
    PairE H T 17 34 #[.int .i64 id] #[.int .i64 id] er T' H' := by
  obtain ⟨er, T', hG', htold, pd, pr⟩ := Remove_told h.good id
  obtain ⟨⟨d, hw⟩, ha⟩ := h.good
  obtain ⟨⟨d', hw'⟩, ha'⟩ := hG'
  have hG : GoodT T := ⟨⟨d, hw⟩, ha⟩
  have hok : er = 0 → okI (T.up id) ∧ okI (T.idx id) ∧ StOk T' (movedIf er (remP T' id (T.up id) (T.idx id)) H) ∧ movedIf er (goneL (T.allOf id) (T.up id) (T.idx id)) H = movedIf er (remP T' id (T.up id) (T.idx id)) H := by
    intro e
    rcases htold with ⟨e2, _⟩ | ⟨_, p', k', pd', kd, rfl, h1, h2, h3, h4, h5, rfl⟩
    · exact absurd e e2
    · have hgk := Tr.get_of h2
      have hup : T.up (k' : Int) = (p' : Int) := by rw [Tr.up_some hgk, h3]
      have ht : pd'.tag ≠ 0 := fun e => by
        have h9 := (hw.text _ pd' h1).2.2 e
        rw [h9] at h4
        cases h4
      have hn := (hw.kids p' pd' h1).1
      have hlk := linked_unlink hw hw' h1 h2 h5 h3 hn h4
      have hix : T.idx (k' : Int) = (pd'.kids.idxOf (k' : Int) : Int) := hlk.idxk
      have hil := List.idxOf_lt_length_of_mem h4
      have hs := len_small hG (Tr.get_of h1)
      have hkl := lengthOf_kids hw h1 ht
      obtain ⟨l1, l2⟩ := unlink_len h1 h2 h5 ht (tag_ne hw h1) h4
      have hgot : ∀ n, (∃ nd, T.get? n = some nd) → ∃ nd, (T.unlink p' k' pd' kd).get? n = some nd := by
        intro n hn
        obtain ⟨nd, hn⟩ := hn
        refine got_of_len ?_
        by_cases e : n = (p' : Int)
        · rw [e, l2, hkl]; omega
        · rw [l1 n e]; exact (len_small hG hn).2.2.1
      subst e
      refine ⟨by unfold okI; omega, by rw [hix]; unfold okI; omega, ?_, ?_⟩
      · show StOk _ (if (0 : Int) = 0 then _ else _)
        rw [if_pos rfl]
        exact ⟨⟨⟨d', hw'⟩, ha'⟩, h.may.map fun n a hm => by
          rw [hup, hix]
          exact may_rem l1 l2 (by omega) (by rw [hkl]; omega) n a hm, offs_moved _ h.offs⟩
      · show (if (0 : Int) = 0 then _ else _) = (if (0 : Int) = 0 then _ else _)
        rw [if_pos rfl, if_pos rfl]
        refine moved_congr fun x hx h0 => ?_
        have hg := may_got' (h.may x hx h0)
        obtain ⟨nd, hnd⟩ := hg
        have e1 := hw.mem_all hgk hnd
        have e2 := hlk.win_old hw' hw ⟨kd, hgk⟩ ⟨nd, hnd⟩
        have e3 := hlk.win_new hw' (hgot _ ⟨kd, hgk⟩) (hgot _ ⟨nd, hnd⟩)
        unfold goneL remP
        by_cases hin : x.node ∈ T.allOf (k' : Int)
        · rw [if_pos hin, if_pos (e3.2 (e2.1 (e1.1 hin)))]
        · rw [if_neg hin, if_neg (fun e => hin (e1.2 (e2.2 (e3.1 e))))]
  obtain ⟨m1, m2, m3⟩ := movedD_is er (remP T' id (T.up id) (T.idx id)) H
  refine ⟨er, T', _, ?_, m3, htold, rfl, fun w own ptr lb tb hv hb hL => lRemove_any hL hl id (T.up id) (T.idx id) hw' (fun W x => ?_) (fun W x => at_idx ((hL.ext x).tree.tat (hL.ext x).ownd) hw id) (fun W x => pd W own ptr tb (hL.ext x).tree (hL.ext x).ownd) fun e => ⟨(hok e).1, (hok e).2.1, h.okH⟩, fun w F xb rb hD => ?_⟩
  · by_cases e : er = 0
    · exact (hok e).2.2.1
    · rcases htold with ⟨_, rfl⟩ | ⟨e2, _⟩
      · unfold movedIf; rw [if_neg e]; exact h
      · exact absurd e2 e
  · cases hg : T.get? id with
    | none => rw [Tr.up_none hg]; exact Parent_none (hL.ext x).tree hg
    | some nd => rw [Tr.up_some hg]; exact Parent_some (hL.ext x).tree hg
  · have h9 := dRemove hD (by rw [iOf_len]; exact hl) hw id (by have := allOf_2000 hw id; omega) (fun F0 W x hR => pr W F0 rb hR) fun e => ⟨(hok e).1, (hok e).2.1, h.okPl⟩
    rw [(movedD_is er (goneL (T.allOf id) (T.up id) (T.idx id)) H).1] at h9
    by_cases e : er = 0
    · rw [(hok e).2.2.2] at h9
      rw [m2]
      exact h9
    · have e1 : ∀ f, movedIf er f H = H := fun f => by unfold movedIf; rw [if_neg e]
      rw [e1] at h9 ⊢
      exact h9
theorem Drop_both (h : StOk T H) (hl : H.length ≤ 100000) (id : Int) : ∃ er T' H', StOk T' H' ∧ H'.length = H.length ∧
    PairE H T 35 36 #[.int .i64 id] #[.int .i64 id] er T' H' := by
  obtain ⟨er, T', hG', htold, pd, pr⟩ := Drop_told h.good id
  obtain ⟨⟨d, hw⟩, ha⟩ := h.good
  have hG : GoodT T := ⟨⟨d, hw⟩, ha⟩
  obtain ⟨m1, m2, m3⟩ := movedD_is er (dropP (T.allOf id)) H
  refine ⟨er, T', _, ?_, m3, fun w own ptr lb tb hv hb hL => lDrop_any hL hl id hw (fun W x => pd W own ptr tb (hL.ext x).tree (hL.ext x).ownd), fun w F xb rb hD => ?_⟩
  · rcases htold with ⟨e, rfl⟩ | ⟨rfl, i, nd, rfl, h1, h2, h3, rfl⟩
    · unfold movedIf; rw [if_neg e]; exact h
    · show StOk _ (if (0 : Int) = 0 then _ else _)
      rw [if_pos rfl]
      refine ⟨hG', h.may.rid (fun j hj => ?_) ?_, offs_moved _ h.offs⟩
      · cases hg : T.get? (j : Int) with
        | none => exact absurd hg hj
        | some jd => rw [hw.mem_all (Tr.get_of h1) hg, hw.win_within _ ⟨jd, hg⟩]
      · obtain ⟨⟨d2, hw2⟩, ha2⟩ := hG'
        obtain ⟨rd, hr, _⟩ := hw2.root
        exact (len_small ⟨⟨d2, hw2⟩, ha2⟩ (Tr.get_of hr)).2.2.1
  · rw [m2, ← m1]
    exact dDrop hD (by rw [iOf_len]; exact hl) (iOf_01 H) hw id (by have := allOf_2000 hw id; omega) (fun F0 W x hR => pr W F0 rb hR)
theorem SetText_both (h : StOk T H) (hl : H.length ≤ 100000) (id : Int) (s : ByteArray) (hs : s.size ≤ 30000) : ∃ er T' H', StOk T' H' ∧ H'.length = H.length ∧
    PairE H T 37 38 #[.int .i64 id, .string s] #[.int .i64 id, .string s] er T' H' := by
  obtain ⟨er, T', hG', htold, pd, pr⟩ := SetText_told h.good id s (by omega)
  obtain ⟨⟨d, hw⟩, ha⟩ := h.good
  have hG : GoodT T := ⟨⟨d, hw⟩, ha⟩
  obtain ⟨c, hc⟩ : ∃ c : Nat, max 0 (T.lengthOf id) = (c : Int) := ⟨(max 0 (T.lengthOf id)).toNat, by omega⟩
  have hc2 : c ≤ 1000000 := by
    cases hg : T.get? id with
    | none => rw [lengthOf_eq, hg] at hc; simp at hc; omega
    | some nd => have := len_small hG hg; omega
  have hok : er = 0 → okI id ∧ c = runes (T.txt id) ∧ StOk T' (movedIf er (repP id 0 c (runes s)) H) := by
    intro e
    rcases htold with ⟨e2, _⟩ | ⟨_, i, nd, rfl, h1, h2, rfl⟩
    · exact absurd e e2
    · have hg := Tr.get_of h1
      have hle : T.lengthOf (i : Int) = (runes nd.text : Int) := by
        rw [lengthOf_eq, hg]
        show (if nd.tag = -1 then _ else if nd.tag = 0 then _ else _) = _
        rw [if_neg (by omega), if_pos h2]
      have hce : (c : Int) = runes nd.text := by omega
      have htx : T.txt (i : Int) = nd.text := by unfold Tr.txt; rw [hg]
      have hs9 := len_small hG hg
      subst e
      refine ⟨by unfold okI; omega, by rw [htx]; omega, ?_⟩
      show StOk _ (if (0 : Int) = 0 then _ else _)
      rw [if_pos rfl]
      obtain ⟨l1, l2⟩ := settext_len (T' := T.setAt i { nd with text := anewB s }) (s := anewB s) h1 h2 rfl
      have hra : runes (anewB s) = runes s := by unfold runes; rw [runes_anew]
      exact ⟨hG', h.may.map fun n a hm => may_rep l1 (by rw [l2, hra, hle, hce]; omega) (by omega) (by omega) (by omega) (by rw [hle]; omega) n a hm, offs_moved _ h.offs⟩
  obtain ⟨m1, m2, m3⟩ := movedD_is er (repP id 0 c (runes s)) H
  refine ⟨er, T', _, ?_, m3, fun w own ptr lb tb hv hb hL => lSetText_any hL hl hw ha id s (by omega) hc hc2 (fun W x => pd W own ptr tb (hL.ext x).tree (hL.ext x).ownd) fun e => ⟨(hok e).1, h.okH⟩, fun w F xb rb hD => ?_⟩
  · by_cases e : er = 0
    · exact (hok e).2.2
    · rcases htold with ⟨_, rfl⟩ | ⟨e2, _⟩
      · unfold movedIf; rw [if_neg e]; exact h
      · exact absurd e2 e
  · have h9 := dSetText hD (by rw [iOf_len]; exact hl) ha id s (by omega) (fun F0 W x hR => pr W F0 rb 0 (.slice none 0 0) hR) fun e => ⟨(hok e).1, h.okPl⟩
    rw [m2, ← m1]
    by_cases e : er = 0
    · rw [(hok e).2.1]
      exact h9
    · have e1 : ∀ f, movedD er f (iOf H) (pOf H) = pOf H := fun f => by unfold movedD; rw [if_neg e]
      rw [e1] at h9 ⊢
      exact h9
end
section
variable {T T' : Tr} {H : List Hd}
theorem replT_size (t s : ByteArray) (a c : Nat) (ht : t.size ≤ 8192) (hs : s.size ≤ 30000) : (replT t a c s).size ≤ 100000 := by
  unfold replT
  rw [ByteArray.size_append, ByteArray.size_append]
  have h1 := runesBytes_size_le ((runeList t t.size 0).take a)
  have h2 := runesBytes_size_le ((runeList t t.size 0).drop (a + c))
  have h3 := runeList_len t t.size 0
  rw [List.length_take] at h1
  rw [List.length_drop] at h2
  omega
theorem Replace_both (h : StOk T H) (hl : H.length ≤ 100000) (id a c : Int) (s : ByteArray) (hs : s.size ≤ 30000) : ∃ er T' H', StOk T' H' ∧ H'.length = H.length ∧
    ((er ≠ 0 ∧ T' = T ∧ H' = H) ∨ (er = 0 ∧ ∃ (i q m : Nat) (nd : Nd) (s' : ByteArray), id = i ∧ T.nodes[i]? = some (some nd) ∧ nd.tag = 0 ∧ T' = T.setAt i { nd with text := s' } ∧ ∃ k : Nat, H' = H.map (moved (repP i q k m)))) ∧
    PairE H T 26 44 #[.int .i64 id, .int .i64 a, .int .i64 c, .string s] #[.int .i64 id, .int .i64 a, .int .i64 c, .string s] er T' H' := by
  have hG := h.good
  obtain ⟨⟨d, hw⟩, ha⟩ := h.good
  cases hg : T.get? id with
  | none => exact ⟨2, T, H, h, rfl, .inl ⟨by decide, rfl, rfl⟩, fun w own ptr lb tb hv hb hL => lReplace_none hL id a c s hg, fun w F xb rb hD => dReplace_none hD id a c s hg⟩
  | some nd =>
    by_cases ht : nd.tag = 0
    · by_cases hac : a < 0 ∨ (runes nd.text : Int) < a ∨ c < 0
      · exact ⟨1, T, H, h, rfl, .inl ⟨by decide, rfl, rfl⟩, fun w own ptr lb tb hv hb hL => lReplace_arg hL hw ha id a c s hg ht hac, fun w F xb rb hD => dReplace_arg hD ha id a c s hg ht hac⟩
      · obtain ⟨a', rfl⟩ := Int.eq_ofNat_of_zero_le (show 0 ≤ a by omega)
        obtain ⟨c0, rfl⟩ := Int.eq_ofNat_of_zero_le (show 0 ≤ c by omega)
        obtain ⟨c', hcc⟩ : ∃ c', min c0 (runes nd.text - a') = c' := ⟨_, rfl⟩
        have hnt := (ha _ nd (Tr.get_lt hg).2.2).2
        obtain ⟨er, T', hG', htold, pd, pr⟩ := SetText_told hG id (replT nd.text a' c' s) (replT_size _ _ _ _ hnt hs)
        have hle : T.lengthOf id = (runes nd.text : Int) := by
          rw [lengthOf_eq, hg]
          show (if nd.tag = -1 then _ else if nd.tag = 0 then _ else _) = _
          rw [if_neg (by omega), if_pos ht]
        have hs9 := len_small hG hg
        have hok : er = 0 → okI id ∧ StOk T' (movedIf er (repP id a' c' (runes s)) H) := by
          intro e
          rcases htold with ⟨e2, _⟩ | ⟨_, i, nd2, rfl, h1, h2, rfl⟩
          · exact absurd e e2
          · have e3 : nd2 = nd := by
              rw [Tr.get_of h1] at hg
              exact Option.some.inj hg
            subst e3
            subst e
            refine ⟨by unfold okI; omega, ?_⟩
            show StOk _ (if (0 : Int) = 0 then _ else _)
            rw [if_pos rfl]
            obtain ⟨l1, l2⟩ := settext_len (T' := T.setAt i { nd2 with text := anewB (replT nd2.text a' c' s) }) (s := anewB (replT nd2.text a' c' s)) h1 h2 rfl
            have hra := runes_repl_len nd2.text s a' c' (by omega)
            have hrs : (runes s : Int) = ((runeList s s.size 0).length : Int) := rfl
            exact ⟨hG', h.may.map fun n x hm => may_rep l1 (by rw [l2, hra, hle, hrs]) (by omega) (by omega) (by omega) (by rw [hle]; omega) n x hm, offs_moved _ h.offs⟩
        obtain ⟨m1, m2, m3⟩ := movedD_is er (repP id a' c' (runes s)) H
        refine ⟨er, T', _, ?_, m3, ?_, fun w own ptr lb tb hv hb hL => lReplace_any hL hl hw ha id hg ht a' c0 (by omega) s (by omega) hcc (fun W x => pd W own ptr tb (hL.ext x).tree (hL.ext x).ownd) fun e => ⟨(hok e).1, h.okH⟩, fun w F xb rb hD => ?_⟩
        · by_cases e : er = 0
          · exact (hok e).2
          · rcases htold with ⟨_, rfl⟩ | ⟨e2, _⟩
            · unfold movedIf; rw [if_neg e]; exact h
            · exact absurd e2 e
        · rcases htold with ⟨e, e2⟩ | ⟨e, i, nd2, rfl, h1, h2, e3⟩
          · exact .inl ⟨e, e2, by unfold movedIf; rw [if_neg e]⟩
          · refine .inr ⟨e, i, a', runes s, nd2, _, rfl, h1, h2, e3, c', ?_⟩
            unfold movedIf
            rw [if_pos e]
        · rw [m2, ← m1]
          exact dReplace hD (by rw [iOf_len]; exact hl) ha id hg ht a' c0 (by omega) s (by omega) hcc (fun F0 W x hR => pr W F0 rb 0 (.slice none 0 0) hR) fun e => ⟨(hok e).1, h.okPl⟩
    · exact ⟨6, T, H, h, rfl, .inl ⟨by decide, rfl, rfl⟩, fun w own ptr lb tb hv hb hL => lReplace_kind hL id a c s hg ht, fun w F xb rb hD => dReplace_kind hD id a c s hg ht⟩
theorem RdN.agg {g : World} {n : PN} {nv : Value} (h : RdN g n nv) : ∃ v0 v1 v2 v3, nv = .agg #[v0, v1, v2, v3] ∧ v0.oneCell' = true ∧ v1.oneCell' = true ∧ v2.oneCell' = true ∧ v3.oneCell' = true := by
  obtain ⟨av, kv, rfl, ha, hk⟩ := h.open
  obtain ⟨naa, nac, en0, _⟩ := ha.len_of
  obtain ⟨nka, nkc, en1, _⟩ := hk
  subst en0 en1
  exact ⟨_, _, _, _, rfl, rfl, rfl, rfl, rfl⟩
theorem Graft_both (h : StOk T H) (hl : H.length ≤ 100000) (p q : Int) (n : PN) (hsh : n.short = true) (hsz : n.size ≤ 90000) : ∃ x er T' H', StOk T' H' ∧ H'.length = H.length ∧
    (∀ (g w : World) (own : Ow) (ptr : Nat → Nat) (lb tb : Nat) (hv : Value) (hb : Option Nat) (nv : Value), LiveAt w own ptr lb tb T hv hb H → RdN g n nv → Apart g own w → Calls Tryz.prog 28 #[.pointer (some ⟨lb, 0, none⟩), .int .i64 p, .int .i64 q, nv] w (LTwo own lb tb hb w x er T' H')) ∧
    (∀ (g w : World) (F : Nat → Prop) (xb rb : Nat) (nv : Value), DocOn w F xb rb T (iOf H) (pOf H) → RdN g n nv → RApart g F w → Calls Tryz.prog 39 #[.pointer (some ⟨xb, 0, none⟩), .int .i64 p, .int .i64 q, nv] w (DTwoAft F w xb rb x er T' (iOf H') (pOf H'))) := by
  obtain ⟨x, er, T', hG', htold, pd, pr⟩ := Graft_told h.good p q n hsh hsz
  have hG := h.good
  obtain ⟨⟨d, hw⟩, ha⟩ := h.good
  have hok : er = 0 → okI p ∧ okI q ∧ StOk T' (movedIf er (insP p q 1) H) := by
    intro e
    rcases htold with ⟨e2, _⟩ | ⟨_, p', a', m, pd', kd, rfl, rfl, h1, h2, h3, h4, h5, rfl⟩
    · exact absurd e e2
    · have hs9 := len_small hG (Tr.get_of h1)
      have hk := hw.kids_len h1
      subst e
      refine ⟨by unfold okI; omega, by unfold okI; omega, ?_⟩
      show StOk _ (if (0 : Int) = 0 then _ else _)
      rw [if_pos rfl]
      exact ⟨hG', h.may.grafted h1 h2 (tag_ne hw h1) h3 h4 h5, offs_moved _ h.offs⟩
  obtain ⟨m1, m2, m3⟩ := movedD_is er (insP p q 1) H
  refine ⟨x, er, T', _, ?_, m3, fun g w own ptr lb tb hv hb nv hL hr hap => ?_, fun g w F xb rb nv hD hr hap => ?_⟩
  · by_cases e : er = 0
    · exact (hok e).2.2
    · rcases htold with ⟨_, rfl⟩ | ⟨e2, _⟩
      · unfold movedIf; rw [if_neg e]; exact h
      · exact absurd e2 e
  · obtain ⟨v0, v1, v2, v3, rfl, o⟩ := hr.agg
    exact lGraft_any hL hl p q v0 v1 v2 v3 (fun W y => pd g W own ptr tb _ (hL.ext y).tree (hL.ext y).ownd hr (hap.ext y)) o fun e => ⟨(hok e).1, (hok e).2.1, h.okH⟩
  · obtain ⟨v0, v1, v2, v3, rfl, o⟩ := hr.agg
    rw [m2, ← m1]
    exact dGraft hD (by rw [iOf_len]; exact hl) p q v0 v1 v2 v3 (fun F0 W y hsub hR => pr g W F0 rb _ hR hr ((hap.ext y).narrow hsub)) o fun e => ⟨(hok e).1, (hok e).2.1, h.okPl⟩
theorem first_free (H : List Hd) : (∀ x ∈ H, x.off ≠ 1) ∨ ∃ (i : Nat) (x : Hd), H[i]? = some x ∧ x.off = 1 ∧ ∀ y ∈ H.take i, y.off ≠ 1 := by
  induction H with
  | nil => exact .inl fun x hx => by cases hx
  | cons x H ih =>
    by_cases h : x.off = 1
    · exact .inr ⟨0, x, rfl, h, fun y hy => by cases hy⟩
    · rcases ih with ih | ⟨i, y, h1, h2, h3⟩
      · exact .inl fun y hy => by
          rcases List.mem_cons.1 hy with rfl | hy
          · exact h
          · exact ih y hy
      · exact .inr ⟨i + 1, y, h1, h2, fun z hz => by
          rw [List.take_succ_cons] at hz
          rcases List.mem_cons.1 hz with rfl | hz
          · exact h
          · exact h3 z hz⟩
theorem iOf_set (H : List Hd) (k : Nat) (x : Hd) : iOf (H.set k x) = (iOf H).set k (if x.off = 0 then 1 else 0) := by unfold iOf; rw [List.map_set]
theorem pOf_set (H : List Hd) (k : Nat) (x : Hd) : pOf (H.set k x) = (pOf H).set k (x.node, x.at') := by unfold pOf; rw [List.map_set]
theorem StOk.set (h : StOk T H) (k : Nat) {x : Hd} (hx : x.off = 0 ∧ T.may x.node x.at' = true ∨ x = ⟨0, 0, 1⟩) : StOk T (H.set k x) := by
  have key : ∀ y ∈ H.set k x, y = x ∨ y ∈ H := fun y hy => by
    rcases List.mem_or_eq_of_mem_set hy with h | h
    · exact .inr h
    · exact .inl h
  refine ⟨h.good, fun y hy h0 => ?_, fun y hy => ?_⟩
  · rcases key y hy with rfl | hy
    · rcases hx with hx | hx
      · exact hx.2
      · rw [hx] at h0; cases h0
    · exact h.may y hy h0
  · rcases key y hy with rfl | hy
    · rcases hx with hx | hx
      · exact .inl hx.1
      · exact .inr hx
    · exact h.offs y hy
theorem Hold_both (h : StOk T H) (hl : H.length ≤ 100000) (n a : Int) : ∃ (x er : Int) (H' : List Hd), StOk T H' ∧ H.length ≤ H'.length ∧ H'.length ≤ H.length + 1 ∧
    (T.may n a = true → er = 0 ∧ ∃ k : Nat, x = (k : Int) ∧ H'[k]? = some ⟨n, a, 0⟩ ∧ ∀ j : Nat, heldAt H j ≠ none → H'[j]? = H[j]?) ∧
    (∀ (w : World) (own : Ow) (ptr : Nat → Nat) (lb tb : Nat) (hv : Value) (hb : Option Nat), LiveAt w own ptr lb tb T hv hb H → Calls Tryz.prog 21 #[.pointer (some ⟨lb, 0, none⟩), pl n a] w (LTwo own lb tb hb w x er T H')) ∧
    (∀ (w : World) (F : Nat → Prop) (xb rb : Nat), DocOn w F xb rb T (iOf H) (pOf H) → Calls Tryz.prog 40 #[.pointer (some ⟨xb, 0, none⟩), pl n a] w (DTwoAft F w xb rb x er T (iOf H') (pOf H'))) := by
  obtain ⟨⟨d, hw⟩, ha⟩ := h.good
  have hM : ∀ {W0 W : World} {F : Nat → Prop} {xb rb : Nat}, DocOn W0 F xb rb T (iOf H) (pOf H) → Ext W0 W → Calls Tryz.prog 102 #[.pointer (some ⟨rb, 0, none⟩), pl n a] W (RVal (.bool (T.may n a)) W) := fun hD x => rMay (hD.ref.ext x) hw ha n a
  cases hm : T.may n a with
  | false =>
    rw [hm] at hM
    exact ⟨0, 1, H, h, Nat.le_refl _, Nat.le_succ _, (fun e => by cases e), fun w own ptr lb tb hv hb hL => lHold_no hL hw ha n a hm, fun w F xb rb hD => dHold_no hD n a fun W x => hM hD x⟩
  | true =>
    rw [hm] at hM
    rcases first_free H with hno | ⟨i, x, h1, h2, h3⟩
    · have hno2 : ∀ y ∈ iOf H, y ≠ 0 := by
        intro y hy
        obtain ⟨z, hz, rfl⟩ := List.mem_map.1 hy
        have hz0 : z.off = 0 := by
          rcases h.offs z hz with e | e
          · exact e
          · exact absurd (by rw [e]) (hno z hz)
        rw [if_pos hz0]
        decide
      refine ⟨H.length, 0, H ++ [(⟨n, a, 0⟩ : Hd)], ⟨h.good, fun y hy h0 => ?_, fun y hy => ?_⟩, by simp, by simp, fun _ => ⟨rfl, H.length, rfl, by simp, fun j hj => ?_⟩, fun w own ptr lb tb hv hb hL => (lHold_add hL hw ha n a hm hno hl).mono fun _ _ h => h, fun w F xb rb hD => ?_⟩
      · rcases List.mem_append.1 hy with hy | hy
        · exact h.may y hy h0
        · rw [List.mem_singleton.1 hy]; exact hm
      · rcases List.mem_append.1 hy with hy | hy
        · exact h.offs y hy
        · rw [List.mem_singleton.1 hy]; exact .inl rfl
      · cases hh : heldAt H (j : Int) with
        | none => exact absurd hh hj
        | some y =>
          obtain ⟨i, e, h1, _⟩ := heldAt_some hh
          have : j = i := by omega
          subst this
          exact List.getElem?_append_left (List.getElem?_eq_some_iff.1 h1).1
      · have h9 := dHold_add hD (by rw [iOf_len]; exact hl) n a hno2 fun W x => hM hD x
        rw [iOf_len] at h9
        have e1 : iOf (H ++ [⟨n, a, 0⟩]) = iOf H ++ [1] := by simp [iOf]
        have e2 : pOf (H ++ [⟨n, a, 0⟩]) = pOf H ++ [(n, a)] := by simp [pOf]
        rw [e1, e2]
        exact h9
    · have hil := (List.getElem?_eq_some_iff.1 h1).1
      refine ⟨i, 0, H.set i ⟨n, a, 0⟩, h.set i (.inl ⟨rfl, hm⟩), by simp, by simp, fun _ => ⟨rfl, i, rfl, by simp [hil], fun j hj => ?_⟩, fun w own ptr lb tb hv hb hL => (lHold_at hL hw ha n a hm h1 h2 h3 hl).mono fun _ _ h => h, fun w F xb rb hD => ?_⟩
      · cases hh : heldAt H (j : Int) with
        | none => exact absurd hh hj
        | some y =>
          obtain ⟨i2, e, h4, h5⟩ := heldAt_some hh
          have : j = i2 := by omega
          subst this
          have hne : i ≠ j := fun e => by
            subst e
            rw [h1] at h4
            cases h4
            omega
          rw [List.getElem?_set_ne hne]
      · have h9 := dHold_at hD (by rw [iOf_len]; exact hl) n a (i := i) (by
          unfold iOf
          rw [List.getElem?_map, h1]
          show some (if x.off = 0 then 1 else 0) = some 0
          rw [if_neg (by omega)]) (fun j y hj hy => by
          unfold iOf at hy
          rw [List.getElem?_map] at hy
          cases hz : H[j]? with
          | none => rw [hz] at hy; cases hy
          | some z =>
            rw [hz] at hy
            have hm2 : z ∈ H.take i := List.mem_of_getElem? (by rw [List.getElem?_take_of_lt hj]; exact hz)
            have h5 := h3 z hm2
            have hz0 : z.off = 0 := by
              rcases h.offs z (List.mem_of_getElem? hz) with e | e
              · exact e
              · exact absurd (by rw [e]) h5
            have h6 : (if z.off = 0 then (1 : Int) else 0) = y := Option.some.inj hy
            rw [if_pos hz0] at h6
            omega) fun W x => hM hD x
        rw [iOf_set, pOf_set]
        exact h9
theorem hasI_held (h : ∀ x ∈ H, x.off = 0 ∨ x = ⟨0, 0, 1⟩) (k : Int) : hasI (iOf H) k = (heldAt H k).isSome := by
  unfold hasI heldAt iOf
  by_cases h0 : k < 0
  · rw [if_pos h0, decide_eq_false (by omega)]; rfl
  · rw [if_neg h0, decide_eq_true (by omega), Bool.true_and, List.getElem?_map]
    cases hx : H[k.toNat]? with
    | none => rfl
    | some x =>
      show (some (if x.off = 0 then (1 : Int) else 0) == some 1) = (if x.off = 0 then some x else none).isSome
      by_cases h1 : x.off = 0
      · rw [if_pos h1, if_pos h1]; rfl
      · rw [if_neg h1, if_neg h1]; rfl
theorem Place_both (h : StOk T H) (hl : H.length ≤ 100000) (k n a : Int) : ∃ er H', StOk T H' ∧ H'.length = H.length ∧
    PairE H T 41 42 #[.int .i64 k, pl n a] #[.int .i64 k, pl n a] er T H' := by
  obtain ⟨⟨d, hw⟩, ha⟩ := h.good
  refine ⟨placeErr H T k n a, placed H T k n a, ?_, ?_, fun w own ptr lb tb hv hb hL => lPlace_any hL hw ha k n a hl, fun w F xb rb hD => ?_⟩
  · unfold placed
    split
    · rename_i hc
      rw [Bool.and_eq_true] at hc
      exact h.set _ (.inl ⟨rfl, hc.2⟩)
    · exact h
  · unfold placed
    split
    · simp
    · rfl
  · have h9 := dPlace hD k n a (by rw [iOf_len]; exact hl) (mb := T.may n a) fun W x => rMay (hD.ref.ext x) hw ha n a
    rw [hasI_held h.offs] at h9
    have e1 : iOf (placed H T k n a) = iOf H := by
      unfold placed
      split
      · rename_i hc
        rw [Bool.and_eq_true] at hc
        rw [iOf_set, if_pos rfl]
        cases hh : heldAt H k with
        | none => rw [hh] at hc; cases hc.1
        | some x =>
          obtain ⟨i, rfl, h1, h2⟩ := heldAt_some hh
          rw [Int.toNat_natCast]
          have h3 : (iOf H)[i]? = some 1 := by
            unfold iOf
            rw [List.getElem?_map, h1]
            show some (if x.off = 0 then (1 : Int) else 0) = some 1
            rw [if_pos h2]
          obtain ⟨h4, h5⟩ := List.getElem?_eq_some_iff.1 h3
          rw [← h5]; exact List.set_getElem_self h4
      · rfl
    have e2 : pOf (placed H T k n a) = if ((heldAt H k).isSome && T.may n a) = true then (pOf H).set k.toNat (n, a) else pOf H := by
      unfold placed
      split
      · rw [pOf_set]
      · rfl
    have e3 : placeErr H T k n a = if (heldAt H k).isSome = true then (if T.may n a = true then 0 else 1) else 2 := rfl
    rw [e1, e2, e3]
    exact h9
theorem Free_both (h : StOk T H) (hl : H.length ≤ 100000) (k : Int) : ∃ er H', StOk T H' ∧ H'.length = H.length ∧
    PairE H T 16 43 #[.int .i64 k] #[.int .i64 k] er T H' := by
  refine ⟨freeErr H k, freed H k, ?_, ?_, fun w own ptr lb tb hv hb hL => lFree_any hL k hl, fun w F xb rb hD => ?_⟩
  · unfold freed
    split
    · exact h.set _ (.inr rfl)
    · exact h
  · unfold freed
    split
    · simp
    · rfl
  · have h9 := dFree hD k (by rw [iOf_len]; exact hl)
    rw [hasI_held h.offs] at h9
    have e1 : iOf (freed H k) = if (heldAt H k).isSome = true then (iOf H).set k.toNat 0 else iOf H := by
      unfold freed
      split
      · rw [iOf_set]; rfl
      · rfl
    have e2 : pOf (freed H k) = if (heldAt H k).isSome = true then (pOf H).set k.toNat (0, 0) else pOf H := by
      unfold freed
      split
      · rw [pOf_set]
      · rfl
    have e3 : freeErr H k = if (heldAt H k).isSome = true then 0 else 2 := rfl
    rw [e1, e2, e3]
    exact h9
theorem StOk.keeps (h : StOk T H) (hG : GoodT T') (k : Keeps T T') : StOk T' H := ⟨hG, k.mayH h.may, h.offs⟩
end
section
def Lv (own : Ow) (lb : Nat) (hb : Option Nat) (b : Nat) : Prop := own b ≠ none ∨ b = lb ∨ hb = some b
structure LJ (w0 w : World) (lb xb : Nat) (T1 : Tr) (H1 : List Hd) (T2 : Tr) (H2 : List Hd) (g : World) (L : Nat → Prop) : Prop where
  out : ∃ (own : Ow) (ptr : Nat → Nat) (tb : Nat) (hv : Value) (hb : Option Nat) (F : Nat → Prop) (rb : Nat), LiveAt w own ptr lb tb T1 hv hb H1 ∧ DocOn w F xb rb T2 (iOf H2) (pOf H2) ∧ (∀ b, F b → ¬ Lv own lb hb b ∧ b < w.heap.size ∧ w0.heap.size ≤ b) ∧ (∀ b, Lv own lb hb b → w0.heap.size ≤ b) ∧
    (∀ q y, g.cell? q = some y → w.cell? q = some y ∧ ¬ Lv own lb hb q.block ∧ ¬ F q.block) ∧ (∀ b, L b → ¬ Lv own lb hb b ∧ ¬ F b ∧ b < w.heap.size)
  ext : Ext w0 w
section
variable {w w' : World} {own : Ow} {ptr : Nat → Nat} {lb tb : Nat} {T : Tr} {hv : Value} {hb : Option Nat} {H : List Hd}
theorem LiveAt.lv_lt (h : LiveAt w own ptr lb tb T hv hb H) {b : Nat} (hb' : Lv own lb hb b) : b < w.heap.size := by
  rcases hb' with e | e | e
  · exact h.ownd b e
  · rw [e]; exact h.lt
  · exact (h.nrow b e).2.2
theorem LStep.lv {own' : Ow} {hb' : Option Nat} (h : LStep own lb hb w own' hb' w') {b : Nat} (hl : b < w.heap.size) (k : Lv own' lb hb' b) : Lv own lb hb b := by
  rcases k with e | e | e
  · exact .inl (by rw [← h.same b hl]; exact e)
  · exact .inr (.inl e)
  · rcases h.hold b e with e | e
    · exact .inr (.inr e)
    · omega
end
variable {w0 w w' g : World} {lb xb : Nat} {T1 T2 : Tr} {H1 H2 : List Hd} {L : Nat → Prop}
theorem LJ.live (h : LJ w0 w lb xb T1 H1 T2 H2 g L) : ∃ own ptr tb hv hb, LiveAt w own ptr lb tb T1 hv hb H1 := by
  obtain ⟨own, ptr, tb, hv, hb, F, rb, h1, _⟩ := h.out
  exact ⟨own, ptr, tb, hv, hb, h1⟩
theorem LJ.doc (h : LJ w0 w lb xb T1 H1 T2 H2 g L) : ∃ F rb, DocOn w F xb rb T2 (iOf H2) (pOf H2) := by
  obtain ⟨own, ptr, tb, hv, hb, F, rb, _, h2, _⟩ := h.out
  exact ⟨F, rb, h2⟩
theorem LJ.told (h : LJ w0 w lb xb T1 H1 T2 H2 g L) {q : Addr} {y : Value} (hq : g.cell? q = some y) : w.cell? q = some y := by
  obtain ⟨own, ptr, tb, hv, hb, F, rb, h1, h2, h3, h4, h5, h6⟩ := h.out
  exact (h5 q y hq).1
theorem LJ.cells (h : LJ w0 w lb xb T1 H1 T2 H2 g L) : Cells g w := fun q y hq => h.told hq
theorem LJ.more (h : LJ w0 w lb xb T1 H1 T2 H2 g L) (x : Ext w w') : LJ w0 w' lb xb T1 H1 T2 H2 g L := by
  obtain ⟨own, ptr, tb, hv, hb, F, rb, h1, h2, h3, h4, h5, h6⟩ := h.out
  exact ⟨⟨own, ptr, tb, hv, hb, F, rb, h1.ext x, h2.ext x, fun b hb => ⟨(h3 b hb).1, Nat.lt_of_lt_of_le (h3 b hb).2.1 x.size, (h3 b hb).2.2⟩, h4, fun q y hq => ⟨x.cells _ _ (h5 q y hq).1, (h5 q y hq).2⟩, fun b hb => ⟨(h6 b hb).1, (h6 b hb).2.1, Nat.lt_of_lt_of_le (h6 b hb).2.2 x.size⟩⟩, h.ext.trans x⟩
def gap (w0 w w' : World) : World := hide (fun y => if y < w0.heap.size ∨ w.heap.size ≤ y then none else some (0, 0)) w'
theorem gap_cell {q : Addr} {y : Value} (h : w'.cell? q = some y) (k : q.block < w0.heap.size ∨ w.heap.size ≤ q.block) : (gap w0 w w').cell? q = some y := hide_cell h (if_pos k)
theorem gap_old (x : Ext w0 w') : Cells w0 (gap w0 w w') := fun q y hq => gap_cell (x.cells _ _ hq) (.inl (World.block_lt_of_cell? _ _ hq))
theorem gap_new {b : Nat} {cs : Array Value} {t : TypeId} {fr : Nat × Nat} (h : w'.heap[b]? = some (.cells cs t fr)) (hb : w.heap.size ≤ b) {i : Nat} {v : Value} (hi : cs[i]? = some v) : (gap w0 w w').cell? ⟨b, i, none⟩ = some v := gap_cell (q := ⟨b, i, none⟩) (cellOf h hi) (.inr hb)
theorem LJ.grow (h : LJ w0 w lb xb T1 H1 T2 H2 g L) (x : Ext w w') : LJ w0 w' lb xb T1 H1 T2 H2 (gap w0 w w') (fun b => w.heap.size ≤ b ∧ b < w'.heap.size) := by
  obtain ⟨own, ptr, tb, hv, hb, F, rb, h1, h2, h3, h4, h5, h6⟩ := h.out
  have hn : ∀ b, b < w0.heap.size ∨ w.heap.size ≤ b → ¬ Lv own lb hb b ∧ ¬ F b := fun b hb' => by
    refine ⟨fun e => ?_, fun e => ?_⟩
    · have a1 := h1.lv_lt e
      have a2 := h4 b e
      omega
    · have := h3 b e
      omega
  refine ⟨⟨own, ptr, tb, hv, hb, F, rb, h1.ext x, h2.ext x, fun b hb => ⟨(h3 b hb).1, Nat.lt_of_lt_of_le (h3 b hb).2.1 x.size, (h3 b hb).2.2⟩, h4, fun q y hq => ?_, fun b hb => ⟨(hn b (.inr hb.1)).1, (hn b (.inr hb.1)).2, hb.2⟩⟩, h.ext.trans x⟩
  obtain ⟨a1, a2⟩ := hide_apart _ _ q y hq
  dsimp only at a2
  split at a2
  · rename_i a3
    exact ⟨a1, hn _ a3⟩
  · cases a2
theorem LJ.base (h : LJ w0 w lb xb T1 H1 T2 H2 g L) : LJ w0 w lb xb T1 H1 T2 H2 w0 L := by
  obtain ⟨own, ptr, tb, hv, hb, F, rb, h1, h2, h3, h4, h5, h6⟩ := h.out
  refine ⟨⟨own, ptr, tb, hv, hb, F, rb, h1, h2, h3, h4, fun q y hq => ?_, h6⟩, h.ext⟩
  have hl := World.block_lt_of_cell? _ _ hq
  exact ⟨h.ext.cells _ _ hq, fun e => by have := h4 _ e; omega, fun hf => by have := h3 _ hf; omega⟩
theorem LJ.free (h : LJ w0 w lb xb T1 H1 T2 H2 g L) : LJ w0 w lb xb T1 H1 T2 H2 g (fun _ => False) := by
  obtain ⟨own, ptr, tb, hv, hb, F, rb, h1, h2, h3, h4, h5, h6⟩ := h.out
  exact ⟨⟨own, ptr, tb, hv, hb, F, rb, h1, h2, h3, h4, h5, fun b hb => hb.elim⟩, h.ext⟩
theorem LJ.liveL (h : LJ w0 w lb xb T1 H1 T2 H2 g L) {P : Program} {f : FuncId} {args : Array Value} {v : Value} {T' : Tr} {H' : List Hd}
    (hd : ∀ (own : Ow) (ptr : Nat → Nat) (tb : Nat) (hv : Value) (hb : Option Nat), LiveAt w own ptr lb tb T1 hv hb H1 → Apart g own w → Calls P f args w fun e w' => e = .returned v ∧ LAfter own lb tb hb w T' H' w') :
    Calls P f args w fun e w' => (e = .returned v ∧ LJ w0 w' lb xb T' H' T2 H2 g L) ∧ ∀ b, L b → w'.heap[b]? = w.heap[b]? := by
  obtain ⟨own, ptr, tb, hv, hb, F, rb, h1, h2, h3, h4, h5, h6⟩ := h.out
  refine (hd own ptr tb hv hb h1 fun q y hq => ⟨(h5 q y hq).1, Decidable.byContradiction fun e => (h5 q y hq).2.1 (.inl e)⟩).mono fun e w' hh => ?_
  obtain ⟨own', ptr', hv', hb', k1, k2⟩ := hh.2
  have km : Mv (Lv own lb hb) w w' := k2.mv
  refine ⟨⟨hh.1, ?_⟩, fun b hb => km.rest b (h6 b hb).2.2 (h6 b hb).1⟩
  have hs := km.size
  have hw0 := h.ext.size
  have hext : Ext w0 w' := ⟨km.os.trans (Below.os h.ext), km.tape.trans (Below.tape h.ext), km.output.trans (Below.output h.ext), Nat.le_trans hw0 hs, fun b hb => (km.rest b (by omega) (fun e => by have := h4 b e; omega)).trans (Below.block h.ext b hb)⟩
  refine ⟨⟨own', ptr', tb, hv', hb', F, rb, k1, h2.mv km fun b hb => (h3 b hb).1, fun b hb => ⟨fun e => (h3 b hb).1 (k2.lv (h3 b hb).2.1 e), Nat.lt_of_lt_of_le (h3 b hb).2.1 hs, (h3 b hb).2.2⟩, fun b hb => ?_, fun q y hq => ?_, fun b hb => ⟨fun e => (h6 b hb).1 (k2.lv (h6 b hb).2.2 e), (h6 b hb).2.1, Nat.lt_of_lt_of_le (h6 b hb).2.2 hs⟩⟩, hext⟩
  · rcases Nat.lt_or_ge b w.heap.size with a | a
    · exact h4 b (k2.lv a hb)
    · omega
  · obtain ⟨a1, a2, a3⟩ := h5 q y hq
    have hl := World.block_lt_of_cell? _ _ a1
    exact ⟨(World.cell?_of_block (km.rest _ hl a2)).trans a1, fun e => a2 (k2.lv hl e), a3⟩
theorem LJ.docL (h : LJ w0 w lb xb T1 H1 T2 H2 g L) {P : Program} {f : FuncId} {args : Array Value} {v : Value} {T' : Tr} {H' : List Hd}
    (hd : ∀ (F : Nat → Prop) (rb : Nat), DocOn w F xb rb T2 (iOf H2) (pOf H2) → RApart g F w → Calls P f args w fun e w' => e = .returned v ∧ DAft F w xb rb T' (iOf H') (pOf H') w') :
    Calls P f args w fun e w' => (e = .returned v ∧ LJ w0 w' lb xb T1 H1 T' H' g L) ∧ ∀ b, L b → w'.heap[b]? = w.heap[b]? := by
  obtain ⟨own, ptr, tb, hv, hb, F, rb, h1, h2, h3, h4, h5, h6⟩ := h.out
  refine (hd F rb h2 fun q y hq => ⟨(h5 q y hq).1, (h5 q y hq).2.2⟩).mono fun e w' hh => ?_
  obtain ⟨k1, k2⟩ := hh.2
  refine ⟨⟨hh.1, ?_⟩, fun b hb => k2.rest b (h6 b hb).2.2 (h6 b hb).2.1⟩
  have hs := k2.size
  have hw0 := h.ext.size
  have hF0 : ∀ b, b < w0.heap.size → ¬ F b := fun b hb hf => by have := h3 b hf; omega
  have hLv : ∀ b, Lv own lb hb b → ¬ F b := fun b hb hf => (h3 b hf).1 hb
  refine ⟨⟨own, ptr, tb, hv, hb, fun b => (F b ∨ w.heap.size ≤ b) ∧ b < w'.heap.size, rb, h1.mv k2 (fun b hb => hLv b (.inl hb)) (hLv lb (.inr (.inl rfl))) (fun b hb => hLv b (.inr (.inr hb))), k1.lt, fun b hb => ?_, h4, fun q y hq => ?_, fun b hb => ?_⟩, ?_⟩
  · rcases hb with ⟨hb | hb, hl⟩
    · obtain ⟨a1, a2, a3⟩ := h3 b hb
      exact ⟨a1, hl, a3⟩
    · exact ⟨fun e => by have := h1.lv_lt e; omega, hl, by omega⟩
  · obtain ⟨a1, a2, a3⟩ := h5 q y hq
    have hl := World.block_lt_of_cell? _ _ a1
    exact ⟨(World.cell?_of_block (k2.rest _ hl a3)).trans a1, a2, fun hf => by rcases hf.1 with hf | hf; exact a3 hf; omega⟩
  · obtain ⟨a1, a2, a3⟩ := h6 b hb
    exact ⟨a1, fun hf => by rcases hf.1 with hf | hf; exact a2 hf; omega, Nat.lt_of_lt_of_le a3 hs⟩
  · exact ⟨k2.os.trans (Below.os h.ext), k2.tape.trans (Below.tape h.ext), k2.output.trans (Below.output h.ext), Nat.le_trans hw0 hs, fun b hb => (k2.rest b (by omega) (hF0 b hb)).trans (Below.block h.ext b hb)⟩
theorem LJ.live_ (h : LJ w0 w lb xb T1 H1 T2 H2 g L) {P : Program} {f : FuncId} {args : Array Value} {v : Value} {T' : Tr} {H' : List Hd}
    (hd : ∀ (own : Ow) (ptr : Nat → Nat) (tb : Nat) (hv : Value) (hb : Option Nat), LiveAt w own ptr lb tb T1 hv hb H1 → Apart g own w → Calls P f args w fun e w' => e = .returned v ∧ LAfter own lb tb hb w T' H' w') :
    Calls P f args w fun e w' => e = .returned v ∧ LJ w0 w' lb xb T' H' T2 H2 g L := (h.liveL hd).mono fun _ _ k => k.1
theorem LJ.doc_ (h : LJ w0 w lb xb T1 H1 T2 H2 g L) {P : Program} {f : FuncId} {args : Array Value} {v : Value} {T' : Tr} {H' : List Hd}
    (hd : ∀ (F : Nat → Prop) (rb : Nat), DocOn w F xb rb T2 (iOf H2) (pOf H2) → RApart g F w → Calls P f args w fun e w' => e = .returned v ∧ DAft F w xb rb T' (iOf H') (pOf H') w') :
    Calls P f args w fun e w' => e = .returned v ∧ LJ w0 w' lb xb T1 H1 T' H' g L := (h.docL hd).mono fun _ _ k => k.1
theorem LiveAt.inner {own : Ow} {ptr : Nat → Nat} {tb : Nat} {hv : Value} {hb : Option Nat} {T T' : Tr} {H : List Hd} (h : LiveAt w own ptr lb tb T hv hb H) (k : After own w tb T' w') : LAfter own lb tb hb w T' H w' := by
  obtain ⟨own', ptr', h1, h2, _⟩ := h.after k
  exact ⟨own', ptr', hv, hb, h1, h2⟩
end
def DoesIs11 (w0 : World) (lb xb : Nat) (H : List Hd) (e : Ending) (w' : World) : Prop := e = .returned (.bool true) ∧ ∃ T' H', StOk T' H' ∧ H'.length ≤ H.length + 1 ∧ LJ w0 w' lb xb T' H' T' H' w0 (fun _ => False)
theorem tmod14 (x : Int) : -14 < x.tmod 14 ∧ x.tmod 14 < 14 := by
  have h1 := Int.tmod_lt_of_pos x (show (0 : Int) < 14 by decide)
  have h2 := Int.lt_tmod_of_pos x (show (0 : Int) < 14 by decide)
  omega
theorem PN.light_short : ∀ n : PN, n.light = true → n.short = true := by
  refine PN.induct _ fun n ih h => ?_
  rw [PN.light_eq] at h
  simp at h
  rw [PN.short_eq]
  have : ∀ l : List PN, (∀ k ∈ l, k ∈ n.kids) → PN.lights l = true → PN.shorts l = true := by
    intro l
    induction l with
    | nil => intro _ _; rfl
    | cons x r ih2 =>
      intro hm hl
      simp only [PN.lights, Bool.and_eq_true] at hl
      simp only [PN.shorts, Bool.and_eq_true]
      exact ⟨ih x (hm x (by simp)) hl.1, ih2 (fun k hk => hm k (by simp [hk])) hl.2⟩
  simp
  exact ⟨⟨by omega, by omega⟩, this n.kids (fun k hk => hk) h.2⟩
theorem light_short11 {n : PN} (h : n.light = true) : n.short = true := n.light_short h
theorem does_head {w0 w : World} {lb xb : Nat} {T : Tr} {H : List Hd} {L : Nat → Prop} (hJ : LJ w0 w lb xb T H T H w0 L) (c : Cl) {av c6 c7 c8 c9 : Value} (hra : RowRd w0 2 av c.attrs.length (attrCells c.attrs)) (hrn : RdN w0 c.n (.agg #[c6, c7, c8, c9])) :
    ∃ (aa : Option Addr) (acap : Nat) (naa : Option Addr) (nac : Nat) (nka : Option Addr) (nkc : Nat) (wm : World) (BX BP : Nat), av = .slice aa c.attrs.length acap ∧ c6 = .int .i64 c.n.tag ∧ c7 = .slice naa c.n.attrs.length nac ∧ c8 = .string c.n.text ∧ c9 = .slice nka c.n.kids.length nkc ∧
      wm = (w.alloc (.cells #[.int .i64 c.what, .int .i64 c.a, .int .i64 c.b, .int .i64 c.c, .string c.s, .slice aa c.attrs.length acap, .int .i64 c.n.tag, .slice naa c.n.attrs.length nac, .string c.n.text, .slice nka c.n.kids.length nkc] 39)).alloc (.cells #[.int .i64 c.a, .int .i64 c.b] 43) ∧ BX = w.heap.size ∧ BP = BX + 1 ∧ wm.heap[BX]? = some (.cells #[.int .i64 c.what, .int .i64 c.a, .int .i64 c.b, .int .i64 c.c, .string c.s, .slice aa c.attrs.length acap, .int .i64 c.n.tag, .slice naa c.n.attrs.length nac, .string c.n.text, .slice nka c.n.kids.length nkc] 39 (0, 0)) ∧ wm.heap[BP]? = some (.cells #[.int .i64 c.a, .int .i64 c.b] 43 (0, 0)) ∧ Ext w wm ∧
      LJ w0 wm lb xb T H T H (gap w0 w wm) (fun b => w.heap.size ≤ b ∧ b < wm.heap.size) ∧ (∀ (i : Nat) (v : Value), (#[.int .i64 c.what, .int .i64 c.a, .int .i64 c.b, .int .i64 c.c, .string c.s, .slice aa c.attrs.length acap, .int .i64 c.n.tag, .slice naa c.n.attrs.length nac, .string c.n.text, .slice nka c.n.kids.length nkc] : Array Value)[i]? = some v → (gap w0 w wm).cell? ⟨BX, i, none⟩ = some v) ∧ (∀ (i : Nat) (v : Value), (#[.int .i64 c.a, .int .i64 c.b] : Array Value)[i]? = some v → (gap w0 w wm).cell? ⟨BP, i, none⟩ = some v) ∧
      RowRd (gap w0 w wm) 2 (.slice aa c.attrs.length acap) c.attrs.length (attrCells c.attrs) ∧ RdN (gap w0 w wm) c.n (.agg #[.int .i64 c.n.tag, .slice naa c.n.attrs.length nac, .string c.n.text, .slice nka c.n.kids.length nkc]) := by
  obtain ⟨aa, acap, rfl, hac⟩ := hra.len_of
  obtain ⟨n0, n1, en, hna, hnk⟩ := hrn.open
  obtain ⟨naa, nac, en0, _⟩ := hna.len_of
  obtain ⟨nka, nkc, en1, _⟩ := hnk
  subst en0 en1
  cases en
  have xm1 := (Ext.refl w).alloc (.cells #[.int .i64 c.what, .int .i64 c.a, .int .i64 c.b, .int .i64 c.c, .string c.s, .slice aa c.attrs.length acap, .int .i64 c.n.tag, .slice naa c.n.attrs.length nac, .string c.n.text, .slice nka c.n.kids.length nkc] 39)
  have bM1 := heap_alloc_new w (.cells #[.int .i64 c.what, .int .i64 c.a, .int .i64 c.b, .int .i64 c.c, .string c.s, .slice aa c.attrs.length acap, .int .i64 c.n.tag, .slice naa c.n.attrs.length nac, .string c.n.text, .slice nka c.n.kids.length nkc] 39)
  obtain ⟨w1, hw1⟩ : ∃ W : World, W = w.alloc (.cells #[.int .i64 c.what, .int .i64 c.a, .int .i64 c.b, .int .i64 c.c, .string c.s, .slice aa c.attrs.length acap, .int .i64 c.n.tag, .slice naa c.n.attrs.length nac, .string c.n.text, .slice nka c.n.kids.length nkc] 39) := ⟨_, rfl⟩
  have sz1 : w1.heap.size = w.heap.size + 1 := by rw [hw1]; simp
  rw [← hw1] at xm1 bM1
  have xm2 := (Ext.refl w1).alloc (.cells #[.int .i64 c.a, .int .i64 c.b] 43)
  have bP := heap_alloc_new w1 (.cells #[.int .i64 c.a, .int .i64 c.b] 43)
  have bM := xm2.block bM1
  have xm := xm1.trans xm2
  rw [sz1] at bP
  refine ⟨aa, acap, naa, nac, nka, nkc, _, _, _, rfl, rfl, rfl, rfl, rfl, rfl, rfl, rfl, ?_, ?_, ?_, ?_, ?_, ?_, ?_, ?_⟩
  all_goals rw [← hw1]
  · exact bM
  · exact bP
  · exact xm
  · exact hJ.grow xm
  · exact fun i v hv => gap_new (w0 := w0) (w := w) bM (Nat.le_refl _) hv
  · exact fun i v hv => gap_new (w0 := w0) (w := w) bP (by omega) hv
  · exact hra.cells (gap_old (w := w) (hJ.ext.trans xm))
  · exact hrn.cells (gap_old (w := w) (hJ.ext.trans xm))
set_option maxRecDepth 100000
set_option maxHeartbeats 1000000

theorem Does11_2 {w0 w : World} {lb xb : Nat} {T : Tr} {H : List Hd} {L : Nat → Prop} (hS : StOk T H) (hl : H.length ≤ 90000) (hJ : LJ w0 w lb xb T H T H w0 L) {c : Cl} (hc : LightCl c) (hm : (c.what.tmod 14 + 14).tmod 14 = 2) {av c6 c7 c8 c9 : Value} (hra : RowRd w0 2 av c.attrs.length (attrCells c.attrs)) (hrn : RdN w0 c.n (.agg #[c6, c7, c8, c9])) :
    Calls Tryz.prog 10 #[.pointer (some ⟨lb, 0, none⟩), .pointer (some ⟨xb, 0, none⟩), .agg #[.int .i64 c.what, .int .i64 c.a, .int .i64 c.b, .int .i64 c.c, .string c.s, av, c6, c7, c8, c9]] w (DoesIs11 w0 lb xb H) := by
  obtain ⟨g1, g2, g3, g4⟩ := hc
  have g5 := light_short11 g3
  obtain ⟨aa, acap, naa, nac, nka, nkc, wm, BX, BP, rfl, rfl, rfl, rfl, rfl, hwm, hBX, hbp, bM, bP, xm, hj1, hB, hP, hra1, hrn1⟩ := does_head hJ c hra hrn
  have J1 := qh hj1
  have HB := qh hB
  have HP := qh hP
  have RAO := qh hra1
  have RNO := qh hrn1
  have HS := qh hS
  have HWM := qh hwm
  have HBX := qh hBX
  have HBB := qh hbp
  have BM := qh bM
  have BPL := qh bP
  obtain ⟨m1, m2⟩ := tmod14 c.what
  have e1 : IntKind.i64.wrap (c.what.tmod 14) = c.what.tmod 14 := IntWalk.i64_in _ (by omega)
  have e2 : IntKind.i64.wrap (c.what.tmod 14 + 14) = c.what.tmod 14 + 14 := IntWalk.i64_in _ (by omega)
  have e3 : IntKind.i64.wrap ((c.what.tmod 14 + 14).tmod 14) = 2 := by rw [hm]; rfl
  rw [Int.tmod_eq_emod_of_nonneg (by omega), Int.add_emod_right] at hm
  obtain ⟨x, er, T', hG2, hk, pd, pr⟩ := Text_told hS.good c.s (by omega)
  have HS2 := qh (hS.keeps hG2 hk)
  have PD := qh pd
  have PR := qh pr
  clear hG2 hk pd pr
  clear hJ hra hrn hS g3 g5 hwm hBX hbp bM bP xm hj1 hB hP hra1 hrn1
  go_enter Tryz.func10, Tryz.ntmps10
  go_upto_region 2 with fail
  rw [← HBX.out, ← HBB.out, ← HWM.out]
  have u0 := cellOf BM.out (i := 0) (v := .int .i64 c.what) rfl
  have u1 := cellOf BM.out (i := 1) (v := .int .i64 c.a) rfl
  have u2 := cellOf BM.out (i := 2) (v := .int .i64 c.b) rfl
  have u3 := cellOf BM.out (i := 3) (v := .int .i64 c.c) rfl
  have u4 := cellOf BM.out (i := 4) (v := .string c.s) rfl
  go_upto_region 4 with fail
  clear u0 u1 u2 u3 u4
  obtain ⟨own1, ptr1, tb1, hv1, hb1, hL1⟩ := J1.out.live
  have p1 := hL1.ptr_
  clear hL1
  have r0 : ∀ u : ExtOf wm, u.val.cell? ⟨lb, 0, none⟩ = some (.pointer (some ⟨tb1, 0, none⟩)) := fun u => u.ext.cell p1
  have r1 : ∀ u : ExtOf wm, u.val.cell? ⟨BX, 4, none⟩ = some (.string c.s) := fun u => u.ext.cell (cellOf BM.out rfl)
  refine wp_region_ext_mid 7 _ rfl (by kernel_rfl) (by kernel_rfl) ?_
  simp only [List.take_succ_cons, List.take_zero, List.drop_succ_cons, List.drop_zero]
  repeat (go_big_quiet_step (fail))
  refine wpQuiet_nil ?_
  rintro _ ⟨u, rfl⟩ K hK
  have HK := qh hK
  have hx := u.ext
  obtain ⟨w5, hw5⟩ : ∃ W, u.val = W := ⟨_, rfl⟩
  rw [hw5] at hx ⊢
  have X5 := qh hx
  have P5 := qh (hx.cell p1)
  clear r0 r1 hw5 hK hx p1
  clear u
  go_simp
  go_at_call 31
  refine ((J1.out.more X5.out).live_ (v := .tuple #[.int .i64 x, .int .i64 er]) (T' := T') (H' := H) fun own ptr tb hv hb h1 h2 => ?_).mono ?_
  · have e := h1.ptr_
    rw [P5.out] at e
    cases e
    exact (PD.out _ own ptr tb1 h1.tree h1.ownd).mono fun e w' k => ⟨k.1, h1.inner k.2⟩
  rintro e w6 ⟨rfl, hj⟩
  have J2 := qh hj
  clear hj
  refine HK.out _ _ ?_
  clear HK K
  repeat (go_big_quiet_step (fail))
  refine wpQuiet_nil ?_
  rintro _ ⟨u, rfl⟩
  have J3 := qh (J2.out.more u.ext)
  obtain ⟨w7, hw7⟩ : ∃ W, u.val = W := ⟨_, rfl⟩
  rw [hw7] at J3 ⊢
  clear hw7
  clear u
  go_upto_region 5 with fail
  obtain ⟨F1, rb1, hD1⟩ := J3.out.doc
  have p1 := hD1.ptr_
  clear hD1
  have r0 : ∀ u : ExtOf w7, u.val.cell? ⟨xb, 0, none⟩ = some (.pointer (some ⟨rb1, 0, none⟩)) := fun u => u.ext.cell p1
  have r1 : ∀ u : ExtOf w7, u.val.cell? ⟨BX, 4, none⟩ = some (.string c.s) := fun u => u.ext.cell (J3.out.told (HB.out 4 _ rfl))
  refine wp_region_ext_mid 7 _ rfl (by kernel_rfl) (by kernel_rfl) ?_
  simp only [List.take_succ_cons, List.take_zero, List.drop_succ_cons, List.drop_zero]
  repeat (go_big_quiet_step (fail))
  refine wpQuiet_nil ?_
  rintro _ ⟨u, rfl⟩ K hK
  have HK := qh hK
  have hx := u.ext
  obtain ⟨w8, hw8⟩ : ∃ W, u.val = W := ⟨_, rfl⟩
  rw [hw8] at hx ⊢
  have J3 := qh (J3.out.more hx)
  have P5 := qh (hx.cell p1)
  clear r0 r1 hw8 hK hx p1
  clear u
  go_simp
  go_at_call 32
  refine (J3.out.doc_ (v := .tuple #[.int .i64 x, .int .i64 er]) (T' := T') (H' := H) fun F rb h1 h2 => ?_).mono ?_
  · have e := h1.ptr_
    rw [P5.out] at e
    cases e
    obtain ⟨F0, hR, hsub, hA⟩ := h1.tree
    exact (PR.out _ F0 rb1 hR).mono fun e w' k => ⟨k.1, hA _ _ k.2⟩
  rintro e w9 ⟨rfl, hj⟩
  have J4 := qh hj
  clear hj
  refine HK.out _ _ ?_
  clear HK K
  repeat (go_big_quiet_step (fail))
  refine wpQuiet_nil ?_
  rintro _ ⟨u, rfl⟩
  have J5 := qh (J4.out.more u.ext)
  obtain ⟨wA, hwA⟩ : ∃ W, u.val = W := ⟨_, rfl⟩
  rw [hwA] at J5 ⊢
  clear hwA
  clear u
  go_wp2_with fail
  go_ret
  exact ⟨rfl, T', H, HS2.out, Nat.le_succ _, J5.out.base.free⟩
theorem Does11_3 {w0 w : World} {lb xb : Nat} {T : Tr} {H : List Hd} {L : Nat → Prop} (hS : StOk T H) (hl : H.length ≤ 90000) (hJ : LJ w0 w lb xb T H T H w0 L) {c : Cl} (hc : LightCl c) (hm : (c.what.tmod 14 + 14).tmod 14 = 3) {av c6 c7 c8 c9 : Value} (hra : RowRd w0 2 av c.attrs.length (attrCells c.attrs)) (hrn : RdN w0 c.n (.agg #[c6, c7, c8, c9])) :
    Calls Tryz.prog 10 #[.pointer (some ⟨lb, 0, none⟩), .pointer (some ⟨xb, 0, none⟩), .agg #[.int .i64 c.what, .int .i64 c.a, .int .i64 c.b, .int .i64 c.c, .string c.s, av, c6, c7, c8, c9]] w (DoesIs11 w0 lb xb H) := by
  obtain ⟨g1, g2, g3, g4⟩ := hc
  have g5 := light_short11 g3
  obtain ⟨aa, acap, naa, nac, nka, nkc, wm, BX, BP, rfl, rfl, rfl, rfl, rfl, hwm, hBX, hbp, bM, bP, xm, hj1, hB, hP, hra1, hrn1⟩ := does_head hJ c hra hrn
  have J1 := qh hj1
  have HB := qh hB
  have HP := qh hP
  have RAO := qh hra1
  have RNO := qh hrn1
  have HS := qh hS
  have HWM := qh hwm
  have HBX := qh hBX
  have HBB := qh hbp
  have BM := qh bM
  have BPL := qh bP
  obtain ⟨m1, m2⟩ := tmod14 c.what
  have e1 : IntKind.i64.wrap (c.what.tmod 14) = c.what.tmod 14 := IntWalk.i64_in _ (by omega)
  have e2 : IntKind.i64.wrap (c.what.tmod 14 + 14) = c.what.tmod 14 + 14 := IntWalk.i64_in _ (by omega)
  have e3 : IntKind.i64.wrap ((c.what.tmod 14 + 14).tmod 14) = 3 := by rw [hm]; rfl
  rw [Int.tmod_eq_emod_of_nonneg (by omega), Int.add_emod_right] at hm
  obtain ⟨er, T', H', hS2, hl2, -, -, pd, pr⟩ := Insert_both hS (by omega) c.a c.b c.c
  have HS2 := qh hS2
  have HL2 := qh hl2
  have PD := qh pd
  have PR := qh pr
  clear hS2 hl2 pd pr
  clear hJ hra hrn hS g3 g5 hwm hBX hbp bM bP xm hj1 hB hP hra1 hrn1
  go_enter Tryz.func10, Tryz.ntmps10
  go_upto_region 2 with fail
  rw [← HBX.out, ← HBB.out, ← HWM.out]
  have u0 := cellOf BM.out (i := 0) (v := .int .i64 c.what) rfl
  have u1 := cellOf BM.out (i := 1) (v := .int .i64 c.a) rfl
  have u2 := cellOf BM.out (i := 2) (v := .int .i64 c.b) rfl
  have u3 := cellOf BM.out (i := 3) (v := .int .i64 c.c) rfl
  have u4 := cellOf BM.out (i := 4) (v := .string c.s) rfl
  go_upto_region 9 with fail
  go_region_held3 (fun w' => w'.cell? ⟨BX, 1, none⟩ = some (.int .i64 c.a) ∧ w'.cell? ⟨BX, 2, none⟩ = some (.int .i64 c.b) ∧ w'.cell? ⟨BX, 3, none⟩ = some (.int .i64 c.c))
    (first | exact ⟨u1, u2, u3⟩ | exact hkeep | go_keep)
    (first
    | (go_at_call 25; refine ((J1.out.more (Ext.refl wm).drew).live_ (v := .int .i64 er) (T' := T') (H' := H') fun own ptr tb hv hb h1 h2 => PD.out _ own ptr lb tb hv hb h1).mono ?_; rintro e w2 ⟨rfl, hj⟩; have hkeep := (show _ ∧ _ ∧ _ from ⟨hj.told (HB.out 1 _ rfl), hj.told (HB.out 2 _ rfl), hj.told (HB.out 3 _ rfl)⟩); have J2 := qh hj; clear hj)
    | (go_at_call 33; refine (J2.out.doc_ (v := .int .i64 er) (T' := T') (H' := H') fun F rb h1 h2 => PR.out _ F xb rb h1).mono ?_; rintro e w3 ⟨rfl, hj⟩; have hkeep := (show _ ∧ _ ∧ _ from ⟨hj.told (HB.out 1 _ rfl), hj.told (HB.out 2 _ rfl), hj.told (HB.out 3 _ rfl)⟩); have J3 := qh hj; clear hj))
  go_wp2_with fail
  go_ret
  exact ⟨rfl, T', H', HS2.out, by have := HL2.out; omega, J3.out.base.free⟩
theorem Does11_4 {w0 w : World} {lb xb : Nat} {T : Tr} {H : List Hd} {L : Nat → Prop} (hS : StOk T H) (hl : H.length ≤ 90000) (hJ : LJ w0 w lb xb T H T H w0 L) {c : Cl} (hc : LightCl c) (hm : (c.what.tmod 14 + 14).tmod 14 = 4) {av c6 c7 c8 c9 : Value} (hra : RowRd w0 2 av c.attrs.length (attrCells c.attrs)) (hrn : RdN w0 c.n (.agg #[c6, c7, c8, c9])) :
    Calls Tryz.prog 10 #[.pointer (some ⟨lb, 0, none⟩), .pointer (some ⟨xb, 0, none⟩), .agg #[.int .i64 c.what, .int .i64 c.a, .int .i64 c.b, .int .i64 c.c, .string c.s, av, c6, c7, c8, c9]] w (DoesIs11 w0 lb xb H) := by
  obtain ⟨g1, g2, g3, g4⟩ := hc
  have g5 := light_short11 g3
  obtain ⟨aa, acap, naa, nac, nka, nkc, wm, BX, BP, rfl, rfl, rfl, rfl, rfl, hwm, hBX, hbp, bM, bP, xm, hj1, hB, hP, hra1, hrn1⟩ := does_head hJ c hra hrn
  have J1 := qh hj1
  have HB := qh hB
  have HP := qh hP
  have RAO := qh hra1
  have RNO := qh hrn1
  have HS := qh hS
  have HWM := qh hwm
  have HBX := qh hBX
  have HBB := qh hbp
  have BM := qh bM
  have BPL := qh bP
  obtain ⟨m1, m2⟩ := tmod14 c.what
  have e1 : IntKind.i64.wrap (c.what.tmod 14) = c.what.tmod 14 := IntWalk.i64_in _ (by omega)
  have e2 : IntKind.i64.wrap (c.what.tmod 14 + 14) = c.what.tmod 14 + 14 := IntWalk.i64_in _ (by omega)
  have e3 : IntKind.i64.wrap ((c.what.tmod 14 + 14).tmod 14) = 4 := by rw [hm]; rfl
  rw [Int.tmod_eq_emod_of_nonneg (by omega), Int.add_emod_right] at hm
  obtain ⟨er, T', H', hS2, hl2, -, -, pd, pr⟩ := Insert_both hS (by omega) c.a c.b c.c
  have HS2 := qh hS2
  have HL2 := qh hl2
  have PD := qh pd
  have PR := qh pr
  clear hS2 hl2 pd pr
  clear hJ hra hrn hS g3 g5 hwm hBX hbp bM bP xm hj1 hB hP hra1 hrn1
  go_enter Tryz.func10, Tryz.ntmps10
  go_upto_region 2 with fail
  rw [← HBX.out, ← HBB.out, ← HWM.out]
  have u0 := cellOf BM.out (i := 0) (v := .int .i64 c.what) rfl
  have u1 := cellOf BM.out (i := 1) (v := .int .i64 c.a) rfl
  have u2 := cellOf BM.out (i := 2) (v := .int .i64 c.b) rfl
  have u3 := cellOf BM.out (i := 3) (v := .int .i64 c.c) rfl
  have u4 := cellOf BM.out (i := 4) (v := .string c.s) rfl
  go_upto_region 9 with fail
  go_region_held3 (fun w' => w'.cell? ⟨BX, 1, none⟩ = some (.int .i64 c.a) ∧ w'.cell? ⟨BX, 2, none⟩ = some (.int .i64 c.b) ∧ w'.cell? ⟨BX, 3, none⟩ = some (.int .i64 c.c))
    (first | exact ⟨u1, u2, u3⟩ | exact hkeep | go_keep)
    (first
    | (go_at_call 25; refine ((J1.out.more (Ext.refl wm).drew).live_ (v := .int .i64 er) (T' := T') (H' := H') fun own ptr tb hv hb h1 h2 => PD.out _ own ptr lb tb hv hb h1).mono ?_; rintro e w2 ⟨rfl, hj⟩; have hkeep := (show _ ∧ _ ∧ _ from ⟨hj.told (HB.out 1 _ rfl), hj.told (HB.out 2 _ rfl), hj.told (HB.out 3 _ rfl)⟩); have J2 := qh hj; clear hj)
    | (go_at_call 33; refine (J2.out.doc_ (v := .int .i64 er) (T' := T') (H' := H') fun F rb h1 h2 => PR.out _ F xb rb h1).mono ?_; rintro e w3 ⟨rfl, hj⟩; have hkeep := (show _ ∧ _ ∧ _ from ⟨hj.told (HB.out 1 _ rfl), hj.told (HB.out 2 _ rfl), hj.told (HB.out 3 _ rfl)⟩); have J3 := qh hj; clear hj))
  go_wp2_with fail
  go_ret
  exact ⟨rfl, T', H', HS2.out, by have := HL2.out; omega, J3.out.base.free⟩
set_option maxRecDepth 100000
set_option maxHeartbeats 1000000

theorem Does11_5 {w0 w : World} {lb xb : Nat} {T : Tr} {H : List Hd} {L : Nat → Prop} (hS : StOk T H) (hl : H.length ≤ 90000) (hJ : LJ w0 w lb xb T H T H w0 L) {c : Cl} (hc : LightCl c) (hm : (c.what.tmod 14 + 14).tmod 14 = 5) {av c6 c7 c8 c9 : Value} (hra : RowRd w0 2 av c.attrs.length (attrCells c.attrs)) (hrn : RdN w0 c.n (.agg #[c6, c7, c8, c9])) :
    Calls Tryz.prog 10 #[.pointer (some ⟨lb, 0, none⟩), .pointer (some ⟨xb, 0, none⟩), .agg #[.int .i64 c.what, .int .i64 c.a, .int .i64 c.b, .int .i64 c.c, .string c.s, av, c6, c7, c8, c9]] w (DoesIs11 w0 lb xb H) := by
  obtain ⟨g1, g2, g3, g4⟩ := hc
  have g5 := light_short11 g3
  obtain ⟨aa, acap, naa, nac, nka, nkc, wm, BX, BP, rfl, rfl, rfl, rfl, rfl, hwm, hBX, hbp, bM, bP, xm, hj1, hB, hP, hra1, hrn1⟩ := does_head hJ c hra hrn
  have J1 := qh hj1
  have HB := qh hB
  have HP := qh hP
  have RAO := qh hra1
  have RNO := qh hrn1
  have HS := qh hS
  have HWM := qh hwm
  have HBX := qh hBX
  have HBB := qh hbp
  have BM := qh bM
  have BPL := qh bP
  obtain ⟨m1, m2⟩ := tmod14 c.what
  have e1 : IntKind.i64.wrap (c.what.tmod 14) = c.what.tmod 14 := IntWalk.i64_in _ (by omega)
  have e2 : IntKind.i64.wrap (c.what.tmod 14 + 14) = c.what.tmod 14 + 14 := IntWalk.i64_in _ (by omega)
  have e3 : IntKind.i64.wrap ((c.what.tmod 14 + 14).tmod 14) = 5 := by rw [hm]; rfl
  rw [Int.tmod_eq_emod_of_nonneg (by omega), Int.add_emod_right] at hm
  obtain ⟨er, T', H', hS2, hl2, -, -, pd, pr⟩ := Remove_both hS (by omega) c.a
  have HS2 := qh hS2
  have HL2 := qh hl2
  have PD := qh pd
  have PR := qh pr
  clear hS2 hl2 pd pr
  clear hJ hra hrn hS g3 g5 hwm hBX hbp bM bP xm hj1 hB hP hra1 hrn1
  go_enter Tryz.func10, Tryz.ntmps10
  go_upto_region 2 with fail
  rw [← HBX.out, ← HBB.out, ← HWM.out]
  have u0 := cellOf BM.out (i := 0) (v := .int .i64 c.what) rfl
  have u1 := cellOf BM.out (i := 1) (v := .int .i64 c.a) rfl
  have u2 := cellOf BM.out (i := 2) (v := .int .i64 c.b) rfl
  have u3 := cellOf BM.out (i := 3) (v := .int .i64 c.c) rfl
  have u4 := cellOf BM.out (i := 4) (v := .string c.s) rfl
  go_upto_region 11 with fail
  go_region_held3 (fun w' => w'.cell? ⟨BX, 1, none⟩ = some (.int .i64 c.a))
    (first | exact u1 | exact hkeep | go_keep)
    (first
    | (go_at_call 17; refine ((J1.out.more (Ext.refl wm).drew).live_ (v := .int .i64 er) (T' := T') (H' := H') fun own ptr tb hv hb h1 h2 => PD.out _ own ptr lb tb hv hb h1).mono ?_; rintro e w2 ⟨rfl, hj⟩; have hkeep := hj.told (HB.out 1 _ rfl); have J2 := qh hj; clear hj)
    | (go_at_call 34; refine (J2.out.doc_ (v := .int .i64 er) (T' := T') (H' := H') fun F rb h1 h2 => PR.out _ F xb rb h1).mono ?_; rintro e w3 ⟨rfl, hj⟩; have hkeep := hj.told (HB.out 1 _ rfl); have J3 := qh hj; clear hj))
  go_wp2_with fail
  go_ret
  exact ⟨rfl, T', H', HS2.out, by have := HL2.out; omega, J3.out.base.free⟩
theorem Does11_6 {w0 w : World} {lb xb : Nat} {T : Tr} {H : List Hd} {L : Nat → Prop} (hS : StOk T H) (hl : H.length ≤ 90000) (hJ : LJ w0 w lb xb T H T H w0 L) {c : Cl} (hc : LightCl c) (hm : (c.what.tmod 14 + 14).tmod 14 = 6) {av c6 c7 c8 c9 : Value} (hra : RowRd w0 2 av c.attrs.length (attrCells c.attrs)) (hrn : RdN w0 c.n (.agg #[c6, c7, c8, c9])) :
    Calls Tryz.prog 10 #[.pointer (some ⟨lb, 0, none⟩), .pointer (some ⟨xb, 0, none⟩), .agg #[.int .i64 c.what, .int .i64 c.a, .int .i64 c.b, .int .i64 c.c, .string c.s, av, c6, c7, c8, c9]] w (DoesIs11 w0 lb xb H) := by
  obtain ⟨g1, g2, g3, g4⟩ := hc
  have g5 := light_short11 g3
  obtain ⟨aa, acap, naa, nac, nka, nkc, wm, BX, BP, rfl, rfl, rfl, rfl, rfl, hwm, hBX, hbp, bM, bP, xm, hj1, hB, hP, hra1, hrn1⟩ := does_head hJ c hra hrn
  have J1 := qh hj1
  have HB := qh hB
  have HP := qh hP
  have RAO := qh hra1
  have RNO := qh hrn1
  have HS := qh hS
  have HWM := qh hwm
  have HBX := qh hBX
  have HBB := qh hbp
  have BM := qh bM
  have BPL := qh bP
  obtain ⟨m1, m2⟩ := tmod14 c.what
  have e1 : IntKind.i64.wrap (c.what.tmod 14) = c.what.tmod 14 := IntWalk.i64_in _ (by omega)
  have e2 : IntKind.i64.wrap (c.what.tmod 14 + 14) = c.what.tmod 14 + 14 := IntWalk.i64_in _ (by omega)
  have e3 : IntKind.i64.wrap ((c.what.tmod 14 + 14).tmod 14) = 6 := by rw [hm]; rfl
  rw [Int.tmod_eq_emod_of_nonneg (by omega), Int.add_emod_right] at hm
  obtain ⟨er, T', H', hS2, hl2, pd, pr⟩ := Drop_both hS (by omega) c.a
  have HS2 := qh hS2
  have HL2 := qh hl2
  have PD := qh pd
  have PR := qh pr
  clear hS2 hl2 pd pr
  clear hJ hra hrn hS g3 g5 hwm hBX hbp bM bP xm hj1 hB hP hra1 hrn1
  go_enter Tryz.func10, Tryz.ntmps10
  go_upto_region 2 with fail
  rw [← HBX.out, ← HBB.out, ← HWM.out]
  have u0 := cellOf BM.out (i := 0) (v := .int .i64 c.what) rfl
  have u1 := cellOf BM.out (i := 1) (v := .int .i64 c.a) rfl
  have u2 := cellOf BM.out (i := 2) (v := .int .i64 c.b) rfl
  have u3 := cellOf BM.out (i := 3) (v := .int .i64 c.c) rfl
  have u4 := cellOf BM.out (i := 4) (v := .string c.s) rfl
  go_upto_region 13 with fail
  go_region_held3 (fun w' => w'.cell? ⟨BX, 1, none⟩ = some (.int .i64 c.a))
    (first | exact u1 | exact hkeep | go_keep)
    (first
    | (go_at_call 35; refine ((J1.out.more (Ext.refl wm).drew).live_ (v := .int .i64 er) (T' := T') (H' := H') fun own ptr tb hv hb h1 h2 => PD.out _ own ptr lb tb hv hb h1).mono ?_; rintro e w2 ⟨rfl, hj⟩; have hkeep := hj.told (HB.out 1 _ rfl); have J2 := qh hj; clear hj)
    | (go_at_call 36; refine (J2.out.doc_ (v := .int .i64 er) (T' := T') (H' := H') fun F rb h1 h2 => PR.out _ F xb rb h1).mono ?_; rintro e w3 ⟨rfl, hj⟩; have hkeep := hj.told (HB.out 1 _ rfl); have J3 := qh hj; clear hj))
  go_wp2_with fail
  go_ret
  exact ⟨rfl, T', H', HS2.out, by have := HL2.out; omega, J3.out.base.free⟩
theorem Does11_7 {w0 w : World} {lb xb : Nat} {T : Tr} {H : List Hd} {L : Nat → Prop} (hS : StOk T H) (hl : H.length ≤ 90000) (hJ : LJ w0 w lb xb T H T H w0 L) {c : Cl} (hc : LightCl c) (hm : (c.what.tmod 14 + 14).tmod 14 = 7) {av c6 c7 c8 c9 : Value} (hra : RowRd w0 2 av c.attrs.length (attrCells c.attrs)) (hrn : RdN w0 c.n (.agg #[c6, c7, c8, c9])) :
    Calls Tryz.prog 10 #[.pointer (some ⟨lb, 0, none⟩), .pointer (some ⟨xb, 0, none⟩), .agg #[.int .i64 c.what, .int .i64 c.a, .int .i64 c.b, .int .i64 c.c, .string c.s, av, c6, c7, c8, c9]] w (DoesIs11 w0 lb xb H) := by
  obtain ⟨g1, g2, g3, g4⟩ := hc
  have g5 := light_short11 g3
  obtain ⟨aa, acap, naa, nac, nka, nkc, wm, BX, BP, rfl, rfl, rfl, rfl, rfl, hwm, hBX, hbp, bM, bP, xm, hj1, hB, hP, hra1, hrn1⟩ := does_head hJ c hra hrn
  have J1 := qh hj1
  have HB := qh hB
  have HP := qh hP
  have RAO := qh hra1
  have RNO := qh hrn1
  have HS := qh hS
  have HWM := qh hwm
  have HBX := qh hBX
  have HBB := qh hbp
  have BM := qh bM
  have BPL := qh bP
  obtain ⟨m1, m2⟩ := tmod14 c.what
  have e1 : IntKind.i64.wrap (c.what.tmod 14) = c.what.tmod 14 := IntWalk.i64_in _ (by omega)
  have e2 : IntKind.i64.wrap (c.what.tmod 14 + 14) = c.what.tmod 14 + 14 := IntWalk.i64_in _ (by omega)
  have e3 : IntKind.i64.wrap ((c.what.tmod 14 + 14).tmod 14) = 7 := by rw [hm]; rfl
  rw [Int.tmod_eq_emod_of_nonneg (by omega), Int.add_emod_right] at hm
  obtain ⟨er, T', H', hS2, hl2, pd, pr⟩ := SetText_both hS (by omega) c.a c.s (by omega)
  have HS2 := qh hS2
  have HL2 := qh hl2
  have PD := qh pd
  have PR := qh pr
  clear hS2 hl2 pd pr
  clear hJ hra hrn hS g3 g5 hwm hBX hbp bM bP xm hj1 hB hP hra1 hrn1
  go_enter Tryz.func10, Tryz.ntmps10
  go_upto_region 2 with fail
  rw [← HBX.out, ← HBB.out, ← HWM.out]
  have u0 := cellOf BM.out (i := 0) (v := .int .i64 c.what) rfl
  have u1 := cellOf BM.out (i := 1) (v := .int .i64 c.a) rfl
  have u2 := cellOf BM.out (i := 2) (v := .int .i64 c.b) rfl
  have u3 := cellOf BM.out (i := 3) (v := .int .i64 c.c) rfl
  have u4 := cellOf BM.out (i := 4) (v := .string c.s) rfl
  go_upto_region 15 with fail
  go_region_held3 (fun w' => w'.cell? ⟨BX, 1, none⟩ = some (.int .i64 c.a) ∧ w'.cell? ⟨BX, 4, none⟩ = some (.string c.s))
    (first | exact ⟨u1, u4⟩ | exact hkeep | go_keep)
    (first
    | (go_at_call 37; refine ((J1.out.more (Ext.refl wm).drew).live_ (v := .int .i64 er) (T' := T') (H' := H') fun own ptr tb hv hb h1 h2 => PD.out _ own ptr lb tb hv hb h1).mono ?_; rintro e w2 ⟨rfl, hj⟩; have hkeep := (show _ ∧ _ from ⟨hj.told (HB.out 1 _ rfl), hj.told (HB.out 4 _ rfl)⟩); have J2 := qh hj; clear hj)
    | (go_at_call 38; refine (J2.out.doc_ (v := .int .i64 er) (T' := T') (H' := H') fun F rb h1 h2 => PR.out _ F xb rb h1).mono ?_; rintro e w3 ⟨rfl, hj⟩; have hkeep := (show _ ∧ _ from ⟨hj.told (HB.out 1 _ rfl), hj.told (HB.out 4 _ rfl)⟩); have J3 := qh hj; clear hj))
  go_wp2_with fail
  go_ret
  exact ⟨rfl, T', H', HS2.out, by have := HL2.out; omega, J3.out.base.free⟩
set_option maxRecDepth 100000
set_option maxHeartbeats 1000000

theorem Does11_8 {w0 w : World} {lb xb : Nat} {T : Tr} {H : List Hd} {L : Nat → Prop} (hS : StOk T H) (hl : H.length ≤ 90000) (hJ : LJ w0 w lb xb T H T H w0 L) {c : Cl} (hc : LightCl c) (hm : (c.what.tmod 14 + 14).tmod 14 = 8) {av c6 c7 c8 c9 : Value} (hra : RowRd w0 2 av c.attrs.length (attrCells c.attrs)) (hrn : RdN w0 c.n (.agg #[c6, c7, c8, c9])) :
    Calls Tryz.prog 10 #[.pointer (some ⟨lb, 0, none⟩), .pointer (some ⟨xb, 0, none⟩), .agg #[.int .i64 c.what, .int .i64 c.a, .int .i64 c.b, .int .i64 c.c, .string c.s, av, c6, c7, c8, c9]] w (DoesIs11 w0 lb xb H) := by
  obtain ⟨g1, g2, g3, g4⟩ := hc
  have g5 := light_short11 g3
  obtain ⟨aa, acap, naa, nac, nka, nkc, wm, BX, BP, rfl, rfl, rfl, rfl, rfl, hwm, hBX, hbp, bM, bP, xm, hj1, hB, hP, hra1, hrn1⟩ := does_head hJ c hra hrn
  have J1 := qh hj1
  have HB := qh hB
  have HP := qh hP
  have RAO := qh hra1
  have RNO := qh hrn1
  have HS := qh hS
  have HWM := qh hwm
  have HBX := qh hBX
  have HBB := qh hbp
  have BM := qh bM
  have BPL := qh bP
  obtain ⟨m1, m2⟩ := tmod14 c.what
  have e1 : IntKind.i64.wrap (c.what.tmod 14) = c.what.tmod 14 := IntWalk.i64_in _ (by omega)
  have e2 : IntKind.i64.wrap (c.what.tmod 14 + 14) = c.what.tmod 14 + 14 := IntWalk.i64_in _ (by omega)
  have e3 : IntKind.i64.wrap ((c.what.tmod 14 + 14).tmod 14) = 8 := by rw [hm]; rfl
  rw [Int.tmod_eq_emod_of_nonneg (by omega), Int.add_emod_right] at hm
  obtain ⟨x, er, T', H', hS2, hl2, pd, pr⟩ := Graft_both hS (by omega) c.a c.b c.n g5 (by omega)
  have HS2 := qh hS2
  have HL2 := qh hl2
  have PD := qh pd
  have PR := qh pr
  clear hS2 hl2 pd pr
  clear hJ hra hrn hS g3 g5 hwm hBX hbp bM bP xm hj1 hB hP hra1 hrn1
  go_enter Tryz.func10, Tryz.ntmps10
  go_upto_region 2 with fail
  rw [← HBX.out, ← HBB.out, ← HWM.out]
  have u0 := cellOf BM.out (i := 0) (v := .int .i64 c.what) rfl
  have u1 := cellOf BM.out (i := 1) (v := .int .i64 c.a) rfl
  have u2 := cellOf BM.out (i := 2) (v := .int .i64 c.b) rfl
  have u3 := cellOf BM.out (i := 3) (v := .int .i64 c.c) rfl
  have u4 := cellOf BM.out (i := 4) (v := .string c.s) rfl
  have u6 := cellOf BM.out (i := 6) (v := .int .i64 c.n.tag) rfl
  have u7 := cellOf BM.out (i := 7) (v := .slice naa c.n.attrs.length nac) rfl
  have u8 := cellOf BM.out (i := 8) (v := .string c.n.text) rfl
  have u9 := cellOf BM.out (i := 9) (v := .slice nka c.n.kids.length nkc) rfl
  go_wp2_with (first
    | (go_at_call 28; refine (J1.out.live_ (v := .tuple #[.int .i64 x, .int .i64 er]) (T' := T') (H' := H') fun own ptr tb hv hb h1 h2 => PD.out _ _ own ptr lb tb hv hb _ h1 RNO.out h2).mono ?_; rintro e w2 ⟨rfl, hj⟩; have v1 := hj.told (HB.out 1 _ rfl); have v2 := hj.told (HB.out 2 _ rfl); have v6 := hj.told (HB.out 6 _ rfl); have v7 := hj.told (HB.out 7 _ rfl); have v8 := hj.told (HB.out 8 _ rfl); have v9 := hj.told (HB.out 9 _ rfl); have J2 := qh hj; clear hj)
    | (go_at_call 39; refine (J2.out.doc_ (v := .tuple #[.int .i64 x, .int .i64 er]) (T' := T') (H' := H') fun F rb h1 h2 => PR.out _ _ F xb rb _ h1 RNO.out h2).mono ?_; rintro e w3 ⟨rfl, hj⟩; have J3 := qh hj; clear hj))
  go_ret
  exact ⟨rfl, T', H', HS2.out, by have := HL2.out; omega, J3.out.base.free⟩
theorem Does11_10 {w0 w : World} {lb xb : Nat} {T : Tr} {H : List Hd} {L : Nat → Prop} (hS : StOk T H) (hl : H.length ≤ 90000) (hJ : LJ w0 w lb xb T H T H w0 L) {c : Cl} (hc : LightCl c) (hm : (c.what.tmod 14 + 14).tmod 14 = 10) {av c6 c7 c8 c9 : Value} (hra : RowRd w0 2 av c.attrs.length (attrCells c.attrs)) (hrn : RdN w0 c.n (.agg #[c6, c7, c8, c9])) :
    Calls Tryz.prog 10 #[.pointer (some ⟨lb, 0, none⟩), .pointer (some ⟨xb, 0, none⟩), .agg #[.int .i64 c.what, .int .i64 c.a, .int .i64 c.b, .int .i64 c.c, .string c.s, av, c6, c7, c8, c9]] w (DoesIs11 w0 lb xb H) := by
  obtain ⟨g1, g2, g3, g4⟩ := hc
  have g5 := light_short11 g3
  obtain ⟨aa, acap, naa, nac, nka, nkc, wm, BX, BP, rfl, rfl, rfl, rfl, rfl, hwm, hBX, hbp, bM, bP, xm, hj1, hB, hP, hra1, hrn1⟩ := does_head hJ c hra hrn
  have J1 := qh hj1
  have HB := qh hB
  have HP := qh hP
  have RAO := qh hra1
  have RNO := qh hrn1
  have HS := qh hS
  have HWM := qh hwm
  have HBX := qh hBX
  have HBB := qh hbp
  have BM := qh bM
  have BPL := qh bP
  obtain ⟨m1, m2⟩ := tmod14 c.what
  have e1 : IntKind.i64.wrap (c.what.tmod 14) = c.what.tmod 14 := IntWalk.i64_in _ (by omega)
  have e2 : IntKind.i64.wrap (c.what.tmod 14 + 14) = c.what.tmod 14 + 14 := IntWalk.i64_in _ (by omega)
  have e3 : IntKind.i64.wrap ((c.what.tmod 14 + 14).tmod 14) = 10 := by rw [hm]; rfl
  rw [Int.tmod_eq_emod_of_nonneg (by omega), Int.add_emod_right] at hm
  obtain ⟨x, er, H', hS2, -, hl2, -, pd, pr⟩ := Hold_both hS (by omega) c.a c.b
  have HS2 := qh hS2
  have HL2 := qh hl2
  have PD := qh pd
  have PR := qh pr
  clear hS2 hl2 pd pr
  clear hJ hra hrn hS g3 g5 hwm hBX hbp bM bP xm hj1 hB hP hra1 hrn1
  go_enter Tryz.func10, Tryz.ntmps10
  go_upto_region 2 with fail
  rw [← HBX.out, ← HBB.out, ← HWM.out]
  have u0 := cellOf BM.out (i := 0) (v := .int .i64 c.what) rfl
  have u1 := cellOf BM.out (i := 1) (v := .int .i64 c.a) rfl
  have u2 := cellOf BM.out (i := 2) (v := .int .i64 c.b) rfl
  have u3 := cellOf BM.out (i := 3) (v := .int .i64 c.c) rfl
  have u4 := cellOf BM.out (i := 4) (v := .string c.s) rfl
  have w0p := cellOf BPL.out (i := 0) (v := .int .i64 c.a) rfl
  have w1p := cellOf BPL.out (i := 1) (v := .int .i64 c.b) rfl
  go_wp2_with (first
    | (go_at_call 21; refine (J1.out.live_ (v := .tuple #[.int .i64 x, .int .i64 er]) (T' := T) (H' := H') fun own ptr tb hv hb h1 h2 => PD.out _ own ptr lb tb hv hb h1).mono ?_; rintro e w2 ⟨rfl, hj⟩; have v1 := hj.told (HP.out 0 _ rfl); have v2 := hj.told (HP.out 1 _ rfl); have J2 := qh hj; clear hj)
    | (go_at_call 40; refine (J2.out.doc_ (v := .tuple #[.int .i64 x, .int .i64 er]) (T' := T) (H' := H') fun F rb h1 h2 => PR.out _ F xb rb h1).mono ?_; rintro e w3 ⟨rfl, hj⟩; have J3 := qh hj; clear hj))
  go_ret
  exact ⟨rfl, T, H', HS2.out, HL2.out, J3.out.base.free⟩
set_option maxRecDepth 100000
set_option maxHeartbeats 1000000

theorem Does11_11 {w0 w : World} {lb xb : Nat} {T : Tr} {H : List Hd} {L : Nat → Prop} (hS : StOk T H) (hl : H.length ≤ 90000) (hJ : LJ w0 w lb xb T H T H w0 L) {c : Cl} (hc : LightCl c) (hm : (c.what.tmod 14 + 14).tmod 14 = 11) {av c6 c7 c8 c9 : Value} (hra : RowRd w0 2 av c.attrs.length (attrCells c.attrs)) (hrn : RdN w0 c.n (.agg #[c6, c7, c8, c9])) :
    Calls Tryz.prog 10 #[.pointer (some ⟨lb, 0, none⟩), .pointer (some ⟨xb, 0, none⟩), .agg #[.int .i64 c.what, .int .i64 c.a, .int .i64 c.b, .int .i64 c.c, .string c.s, av, c6, c7, c8, c9]] w (DoesIs11 w0 lb xb H) := by
  obtain ⟨g1, g2, g3, g4⟩ := hc
  have g5 := light_short11 g3
  obtain ⟨aa, acap, naa, nac, nka, nkc, wm, BX, BP, rfl, rfl, rfl, rfl, rfl, hwm, hBX, hbp, bM, bP, xm, hj1, hB, hP, hra1, hrn1⟩ := does_head hJ c hra hrn
  have J1 := qh hj1
  have HB := qh hB
  have HP := qh hP
  have RAO := qh hra1
  have RNO := qh hrn1
  have HS := qh hS
  have HWM := qh hwm
  have HBX := qh hBX
  have HBB := qh hbp
  have BM := qh bM
  have BPL := qh bP
  obtain ⟨m1, m2⟩ := tmod14 c.what
  have e1 : IntKind.i64.wrap (c.what.tmod 14) = c.what.tmod 14 := IntWalk.i64_in _ (by omega)
  have e2 : IntKind.i64.wrap (c.what.tmod 14 + 14) = c.what.tmod 14 + 14 := IntWalk.i64_in _ (by omega)
  have e3 : IntKind.i64.wrap ((c.what.tmod 14 + 14).tmod 14) = 11 := by rw [hm]; rfl
  rw [Int.tmod_eq_emod_of_nonneg (by omega), Int.add_emod_right] at hm
  obtain ⟨er, H', hS2, hl2, pd, pr⟩ := Place_both hS (by omega) c.c c.a c.b
  have HS2 := qh hS2
  have HL2 := qh hl2
  have PD := qh pd
  have PR := qh pr
  clear hS2 hl2 pd pr
  clear hJ hra hrn hS g3 g5 hwm hBX hbp bM bP xm hj1 hB hP hra1 hrn1
  go_enter Tryz.func10, Tryz.ntmps10
  go_upto_region 2 with fail
  rw [← HBX.out, ← HBB.out, ← HWM.out]
  have u0 := cellOf BM.out (i := 0) (v := .int .i64 c.what) rfl
  have u1 := cellOf BM.out (i := 1) (v := .int .i64 c.a) rfl
  have u2 := cellOf BM.out (i := 2) (v := .int .i64 c.b) rfl
  have u3 := cellOf BM.out (i := 3) (v := .int .i64 c.c) rfl
  have u4 := cellOf BM.out (i := 4) (v := .string c.s) rfl
  have w0p := cellOf BPL.out (i := 0) (v := .int .i64 c.a) rfl
  have w1p := cellOf BPL.out (i := 1) (v := .int .i64 c.b) rfl
  go_upto_region 25 with fail
  go_region_held3 (fun w' => w'.cell? ⟨BX, 3, none⟩ = some (.int .i64 c.c) ∧ w'.cell? ⟨BP, 0, none⟩ = some (.int .i64 c.a) ∧ w'.cell? ⟨BP, 1, none⟩ = some (.int .i64 c.b))
    (first | exact ⟨u3, w0p, w1p⟩ | exact hkeep | go_keep)
    (first
    | (go_at_call 41; refine ((J1.out.more (Ext.refl wm).drew).live_ (v := .int .i64 er) (T' := T) (H' := H') fun own ptr tb hv hb h1 h2 => PD.out _ own ptr lb tb hv hb h1).mono ?_; rintro e w2 ⟨rfl, hj⟩; have hkeep := (show _ ∧ _ ∧ _ from ⟨hj.told (HB.out 3 _ rfl), hj.told (HP.out 0 _ rfl), hj.told (HP.out 1 _ rfl)⟩); have J2 := qh hj; clear hj)
    | (go_at_call 42; refine (J2.out.doc_ (v := .int .i64 er) (T' := T) (H' := H') fun F rb h1 h2 => PR.out _ F xb rb h1).mono ?_; rintro e w3 ⟨rfl, hj⟩; have hkeep := (show _ ∧ _ ∧ _ from ⟨hj.told (HB.out 3 _ rfl), hj.told (HP.out 0 _ rfl), hj.told (HP.out 1 _ rfl)⟩); have J3 := qh hj; clear hj))
  go_wp2_with fail
  go_ret
  exact ⟨rfl, T, H', HS2.out, by have := HL2.out; omega, J3.out.base.free⟩
theorem Does11_12 {w0 w : World} {lb xb : Nat} {T : Tr} {H : List Hd} {L : Nat → Prop} (hS : StOk T H) (hl : H.length ≤ 90000) (hJ : LJ w0 w lb xb T H T H w0 L) {c : Cl} (hc : LightCl c) (hm : (c.what.tmod 14 + 14).tmod 14 = 12) {av c6 c7 c8 c9 : Value} (hra : RowRd w0 2 av c.attrs.length (attrCells c.attrs)) (hrn : RdN w0 c.n (.agg #[c6, c7, c8, c9])) :
    Calls Tryz.prog 10 #[.pointer (some ⟨lb, 0, none⟩), .pointer (some ⟨xb, 0, none⟩), .agg #[.int .i64 c.what, .int .i64 c.a, .int .i64 c.b, .int .i64 c.c, .string c.s, av, c6, c7, c8, c9]] w (DoesIs11 w0 lb xb H) := by
  obtain ⟨g1, g2, g3, g4⟩ := hc
  have g5 := light_short11 g3
  obtain ⟨aa, acap, naa, nac, nka, nkc, wm, BX, BP, rfl, rfl, rfl, rfl, rfl, hwm, hBX, hbp, bM, bP, xm, hj1, hB, hP, hra1, hrn1⟩ := does_head hJ c hra hrn
  have J1 := qh hj1
  have HB := qh hB
  have HP := qh hP
  have RAO := qh hra1
  have RNO := qh hrn1
  have HS := qh hS
  have HWM := qh hwm
  have HBX := qh hBX
  have HBB := qh hbp
  have BM := qh bM
  have BPL := qh bP
  obtain ⟨m1, m2⟩ := tmod14 c.what
  have e1 : IntKind.i64.wrap (c.what.tmod 14) = c.what.tmod 14 := IntWalk.i64_in _ (by omega)
  have e2 : IntKind.i64.wrap (c.what.tmod 14 + 14) = c.what.tmod 14 + 14 := IntWalk.i64_in _ (by omega)
  have e3 : IntKind.i64.wrap ((c.what.tmod 14 + 14).tmod 14) = 12 := by rw [hm]; rfl
  rw [Int.tmod_eq_emod_of_nonneg (by omega), Int.add_emod_right] at hm
  obtain ⟨er, H', hS2, hl2, pd, pr⟩ := Free_both hS (by omega) c.c
  have HS2 := qh hS2
  have HL2 := qh hl2
  have PD := qh pd
  have PR := qh pr
  clear hS2 hl2 pd pr
  clear hJ hra hrn hS g3 g5 hwm hBX hbp bM bP xm hj1 hB hP hra1 hrn1
  go_enter Tryz.func10, Tryz.ntmps10
  go_upto_region 2 with fail
  rw [← HBX.out, ← HBB.out, ← HWM.out]
  have u0 := cellOf BM.out (i := 0) (v := .int .i64 c.what) rfl
  have u1 := cellOf BM.out (i := 1) (v := .int .i64 c.a) rfl
  have u2 := cellOf BM.out (i := 2) (v := .int .i64 c.b) rfl
  have u3 := cellOf BM.out (i := 3) (v := .int .i64 c.c) rfl
  have u4 := cellOf BM.out (i := 4) (v := .string c.s) rfl
  go_upto_region 27 with fail
  go_region_held3 (fun w' => w'.cell? ⟨BX, 3, none⟩ = some (.int .i64 c.c))
    (first | exact u3 | exact hkeep | go_keep)
    (first
    | (go_at_call 16; refine ((J1.out.more (Ext.refl wm).drew).live_ (v := .int .i64 er) (T' := T) (H' := H') fun own ptr tb hv hb h1 h2 => PD.out _ own ptr lb tb hv hb h1).mono ?_; rintro e w2 ⟨rfl, hj⟩; have hkeep := hj.told (HB.out 3 _ rfl); have J2 := qh hj; clear hj)
    | (go_at_call 43; refine (J2.out.doc_ (v := .int .i64 er) (T' := T) (H' := H') fun F rb h1 h2 => PR.out _ F xb rb h1).mono ?_; rintro e w3 ⟨rfl, hj⟩; have hkeep := hj.told (HB.out 3 _ rfl); have J3 := qh hj; clear hj))
  go_wp2_with fail
  go_ret
  exact ⟨rfl, T, H', HS2.out, by have := HL2.out; omega, J3.out.base.free⟩
theorem Does11_13 {w0 w : World} {lb xb : Nat} {T : Tr} {H : List Hd} {L : Nat → Prop} (hS : StOk T H) (hl : H.length ≤ 90000) (hJ : LJ w0 w lb xb T H T H w0 L) {c : Cl} (hc : LightCl c) (hm : (c.what.tmod 14 + 14).tmod 14 = 13) {av c6 c7 c8 c9 : Value} (hra : RowRd w0 2 av c.attrs.length (attrCells c.attrs)) (hrn : RdN w0 c.n (.agg #[c6, c7, c8, c9])) :
    Calls Tryz.prog 10 #[.pointer (some ⟨lb, 0, none⟩), .pointer (some ⟨xb, 0, none⟩), .agg #[.int .i64 c.what, .int .i64 c.a, .int .i64 c.b, .int .i64 c.c, .string c.s, av, c6, c7, c8, c9]] w (DoesIs11 w0 lb xb H) := by
  obtain ⟨g1, g2, g3, g4⟩ := hc
  have g5 := light_short11 g3
  obtain ⟨aa, acap, naa, nac, nka, nkc, wm, BX, BP, rfl, rfl, rfl, rfl, rfl, hwm, hBX, hbp, bM, bP, xm, hj1, hB, hP, hra1, hrn1⟩ := does_head hJ c hra hrn
  have J1 := qh hj1
  have HB := qh hB
  have HP := qh hP
  have RAO := qh hra1
  have RNO := qh hrn1
  have HS := qh hS
  have HWM := qh hwm
  have HBX := qh hBX
  have HBB := qh hbp
  have BM := qh bM
  have BPL := qh bP
  obtain ⟨m1, m2⟩ := tmod14 c.what
  have e1 : IntKind.i64.wrap (c.what.tmod 14) = c.what.tmod 14 := IntWalk.i64_in _ (by omega)
  have e2 : IntKind.i64.wrap (c.what.tmod 14 + 14) = c.what.tmod 14 + 14 := IntWalk.i64_in _ (by omega)
  have e3 : IntKind.i64.wrap ((c.what.tmod 14 + 14).tmod 14) = 13 := by rw [hm]; rfl
  rw [Int.tmod_eq_emod_of_nonneg (by omega), Int.add_emod_right] at hm
  obtain ⟨er, T', H', hS2, hl2, -, pd, pr⟩ := Replace_both hS (by omega) c.a c.b c.c c.s (by omega)
  have HS2 := qh hS2
  have HL2 := qh hl2
  have PD := qh pd
  have PR := qh pr
  clear hS2 hl2 pd pr
  clear hJ hra hrn hS g3 g5 hwm hBX hbp bM bP xm hj1 hB hP hra1 hrn1
  go_enter Tryz.func10, Tryz.ntmps10
  go_upto_region 2 with fail
  rw [← HBX.out, ← HBB.out, ← HWM.out]
  have u0 := cellOf BM.out (i := 0) (v := .int .i64 c.what) rfl
  have u1 := cellOf BM.out (i := 1) (v := .int .i64 c.a) rfl
  have u2 := cellOf BM.out (i := 2) (v := .int .i64 c.b) rfl
  have u3 := cellOf BM.out (i := 3) (v := .int .i64 c.c) rfl
  have u4 := cellOf BM.out (i := 4) (v := .string c.s) rfl
  go_upto_region 29 with fail
  go_region_held3 (fun w' => w'.cell? ⟨BX, 1, none⟩ = some (.int .i64 c.a) ∧ w'.cell? ⟨BX, 2, none⟩ = some (.int .i64 c.b) ∧ w'.cell? ⟨BX, 3, none⟩ = some (.int .i64 c.c) ∧ w'.cell? ⟨BX, 4, none⟩ = some (.string c.s))
    (first | exact ⟨u1, u2, u3, u4⟩ | exact hkeep | go_keep)
    (first
    | (go_at_call 26; refine ((J1.out.more (Ext.refl wm).drew).live_ (v := .int .i64 er) (T' := T') (H' := H') fun own ptr tb hv hb h1 h2 => PD.out _ own ptr lb tb hv hb h1).mono ?_; rintro e w2 ⟨rfl, hj⟩; have hkeep := (show _ ∧ _ ∧ _ ∧ _ from ⟨hj.told (HB.out 1 _ rfl), hj.told (HB.out 2 _ rfl), hj.told (HB.out 3 _ rfl), hj.told (HB.out 4 _ rfl)⟩); have J2 := qh hj; clear hj)
    | (go_at_call 44; refine (J2.out.doc_ (v := .int .i64 er) (T' := T') (H' := H') fun F rb h1 h2 => PR.out _ F xb rb h1).mono ?_; rintro e w3 ⟨rfl, hj⟩; have hkeep := (show _ ∧ _ ∧ _ ∧ _ from ⟨hj.told (HB.out 1 _ rfl), hj.told (HB.out 2 _ rfl), hj.told (HB.out 3 _ rfl), hj.told (HB.out 4 _ rfl)⟩); have J3 := qh hj; clear hj))
  go_wp2_with fail
  go_ret
  exact ⟨rfl, T', H', HS2.out, by have := HL2.out; omega, J3.out.base.free⟩
set_option maxRecDepth 100000
set_option maxHeartbeats 1000000

theorem Does11_e {m : Int} (h019 : m = 0 ∨ m = 1 ∨ m = 9) {w0 w : World} {lb xb : Nat} {T : Tr} {H : List Hd} {L : Nat → Prop} (hS : StOk T H) (hl : H.length ≤ 90000) (hJ : LJ w0 w lb xb T H T H w0 L) {c : Cl} (hc : LightCl c) (hm : (c.what.tmod 14 + 14).tmod 14 = m) {av c6 c7 c8 c9 : Value} (hra : RowRd w0 2 av c.attrs.length (attrCells c.attrs)) (hrn : RdN w0 c.n (.agg #[c6, c7, c8, c9])) :
    Calls Tryz.prog 10 #[.pointer (some ⟨lb, 0, none⟩), .pointer (some ⟨xb, 0, none⟩), .agg #[.int .i64 c.what, .int .i64 c.a, .int .i64 c.b, .int .i64 c.c, .string c.s, av, c6, c7, c8, c9]] w (DoesIs11 w0 lb xb H) := by
  obtain ⟨g1, g2, g3, g4⟩ := hc
  have g5 := light_short11 g3
  obtain ⟨aa, acap, naa, nac, nka, nkc, wm, BX, BP, rfl, rfl, rfl, rfl, rfl, hwm, hBX, hbp, bM, bP, xm, hj1, hB, hP, hra1, hrn1⟩ := does_head hJ c hra hrn
  have J1 := qh hj1
  have HB := qh hB
  have HP := qh hP
  have RAO := qh hra1
  have RNO := qh hrn1
  have HS := qh hS
  have HWM := qh hwm
  have HBX := qh hBX
  have HBB := qh hbp
  have BM := qh bM
  have BPL := qh bP
  obtain ⟨m1, m2⟩ := tmod14 c.what
  have e1 : IntKind.i64.wrap (c.what.tmod 14) = c.what.tmod 14 := IntWalk.i64_in _ (by omega)
  have e2 : IntKind.i64.wrap (c.what.tmod 14 + 14) = c.what.tmod 14 + 14 := IntWalk.i64_in _ (by omega)
  have e3 : IntKind.i64.wrap ((c.what.tmod 14 + 14).tmod 14) = m := by rw [hm]; exact IntWalk.i64_in _ (by omega)
  have t2 : (m == 2) = false := beq_eq_false_iff_ne.2 (by omega)
  have t3 : (m == 3) = false := beq_eq_false_iff_ne.2 (by omega)
  have t4 : (m == 4) = false := beq_eq_false_iff_ne.2 (by omega)
  have t5 : (m == 5) = false := beq_eq_false_iff_ne.2 (by omega)
  have t6 : (m == 6) = false := beq_eq_false_iff_ne.2 (by omega)
  have t7 : (m == 7) = false := beq_eq_false_iff_ne.2 (by omega)
  have t8 : (m == 8) = false := beq_eq_false_iff_ne.2 (by omega)
  have t10 : (m == 10) = false := beq_eq_false_iff_ne.2 (by omega)
  have t11 : (m == 11) = false := beq_eq_false_iff_ne.2 (by omega)
  have t12 : (m == 12) = false := beq_eq_false_iff_ne.2 (by omega)
  have t13 : (m == 13) = false := beq_eq_false_iff_ne.2 (by omega)
  clear h019
  rw [Int.tmod_eq_emod_of_nonneg (by omega), Int.add_emod_right] at hm
  obtain ⟨x, er, T', hG2, hk, pd, pr⟩ := Element_told hS.good c.a c.attrs (by omega)
  have HS2 := qh (hS.keeps hG2 hk)
  have PD := qh pd
  have PR := qh pr
  clear hG2 hk pd pr
  clear hJ hra hrn hS g3 g5 hwm hBX hbp bM bP xm hj1 hB hP hra1 hrn1
  go_enter Tryz.func10, Tryz.ntmps10
  go_upto_region 2 with fail
  rw [← HBX.out, ← HBB.out, ← HWM.out]
  have u0 := cellOf BM.out (i := 0) (v := .int .i64 c.what) rfl
  have u1 := cellOf BM.out (i := 1) (v := .int .i64 c.a) rfl
  have u2 := cellOf BM.out (i := 2) (v := .int .i64 c.b) rfl
  have u3 := cellOf BM.out (i := 3) (v := .int .i64 c.c) rfl
  have u4 := cellOf BM.out (i := 4) (v := .string c.s) rfl
  go_upto_region 30 with fail
  clear u0 u1 u2 u3 u4
  obtain ⟨own1, ptr1, tb1, hv1, hb1, hL1⟩ := J1.out.live
  have p1 := hL1.ptr_
  clear hL1
  have r0 : ∀ u : ExtOf wm, u.val.cell? ⟨lb, 0, none⟩ = some (.pointer (some ⟨tb1, 0, none⟩)) := fun u => u.ext.cell p1
  have r1 : ∀ u : ExtOf wm, u.val.cell? ⟨BX, 1, none⟩ = some (.int .i64 c.a) := fun u => u.ext.cell (cellOf BM.out rfl)
  have r2 : ∀ u : ExtOf wm, u.val.cell? ⟨BX, 5, none⟩ = some (.slice aa c.attrs.length acap) := fun u => u.ext.cell (cellOf BM.out rfl)
  refine wp_region_ext_mid 10 _ rfl (by kernel_rfl) (by kernel_rfl) ?_
  simp only [List.take_succ_cons, List.take_zero, List.drop_succ_cons, List.drop_zero]
  repeat (go_big_quiet_step (fail))
  refine wpQuiet_nil ?_
  rintro _ ⟨u, rfl⟩ K hK
  have HK := qh hK
  have hx := u.ext
  obtain ⟨w5, hw5⟩ : ∃ W, u.val = W := ⟨_, rfl⟩
  rw [hw5] at hx ⊢
  have X5 := qh hx
  have P5 := qh (hx.cell p1)
  clear r0 r1 r2 hw5 hK hx p1
  clear u
  go_simp
  go_at_call 45
  refine ((J1.out.more X5.out).live_ (v := .tuple #[.int .i64 x, .int .i64 er]) (T' := T') (H' := H) fun own ptr tb hv hb h1 h2 => ?_).mono ?_
  · have e := h1.ptr_
    rw [P5.out] at e
    cases e
    exact (PD.out _ own ptr tb1 _ h1.tree h1.ownd (RAO.out.cells ((J1.out.more X5.out).cells))).mono fun e w' k => ⟨k.1, h1.inner k.2⟩
  rintro e w6 ⟨rfl, hj⟩
  have J2 := qh hj
  clear hj
  refine HK.out _ _ ?_
  clear HK K
  repeat (go_big_quiet_step (fail))
  refine wpQuiet_nil ?_
  rintro _ ⟨u, rfl⟩
  have J3 := qh (J2.out.more u.ext)
  obtain ⟨w7, hw7⟩ : ∃ W, u.val = W := ⟨_, rfl⟩
  rw [hw7] at J3 ⊢
  clear hw7
  clear u
  go_upto_region 31 with fail
  obtain ⟨F1, rb1, hD1⟩ := J3.out.doc
  have p1 := hD1.ptr_
  clear hD1
  have r0 : ∀ u : ExtOf w7, u.val.cell? ⟨xb, 0, none⟩ = some (.pointer (some ⟨rb1, 0, none⟩)) := fun u => u.ext.cell p1
  have r1 : ∀ u : ExtOf w7, u.val.cell? ⟨BX, 1, none⟩ = some (.int .i64 c.a) := fun u => u.ext.cell (J3.out.told (HB.out 1 _ rfl))
  have r2 : ∀ u : ExtOf w7, u.val.cell? ⟨BX, 5, none⟩ = some (.slice aa c.attrs.length acap) := fun u => u.ext.cell (J3.out.told (HB.out 5 _ rfl))
  refine wp_region_ext_mid 10 _ rfl (by kernel_rfl) (by kernel_rfl) ?_
  simp only [List.take_succ_cons, List.take_zero, List.drop_succ_cons, List.drop_zero]
  repeat (go_big_quiet_step (fail))
  refine wpQuiet_nil ?_
  rintro _ ⟨u, rfl⟩ K hK
  have HK := qh hK
  have hx := u.ext
  obtain ⟨w8, hw8⟩ : ∃ W, u.val = W := ⟨_, rfl⟩
  rw [hw8] at hx ⊢
  have J3 := qh (J3.out.more hx)
  have P5 := qh (hx.cell p1)
  clear r0 r1 r2 hw8 hK hx p1
  clear u
  go_simp
  go_at_call 46
  refine (J3.out.doc_ (v := .tuple #[.int .i64 x, .int .i64 er]) (T' := T') (H' := H) fun F rb h1 h2 => ?_).mono ?_
  · have e := h1.ptr_
    rw [P5.out] at e
    cases e
    obtain ⟨F0, hR, hsub, hA⟩ := h1.tree
    exact (PR.out _ F0 rb1 _ hR (RAO.out.cells (J3.out.cells))).mono fun e w' k => ⟨k.1, hA _ _ k.2⟩
  rintro e w9 ⟨rfl, hj⟩
  have J4 := qh hj
  clear hj
  refine HK.out _ _ ?_
  clear HK K
  repeat (go_big_quiet_step (fail))
  refine wpQuiet_nil ?_
  rintro _ ⟨u, rfl⟩
  have J5 := qh (J4.out.more u.ext)
  obtain ⟨wA, hwA⟩ : ∃ W, u.val = W := ⟨_, rfl⟩
  rw [hwA] at J5 ⊢
  clear hwA
  clear u
  go_wp2_with fail
  go_ret
  exact ⟨rfl, T', H, HS2.out, Nat.le_succ _, J5.out.base.free⟩
set_option maxRecDepth 100000
set_option maxHeartbeats 1000000

theorem Does11_ok {w0 w : World} {lb xb : Nat} {T : Tr} {H : List Hd} {L : Nat → Prop} (hS : StOk T H) (hl : H.length ≤ 90000) (hJ : LJ w0 w lb xb T H T H w0 L) {c : Cl} (hc : LightCl c) {av c6 c7 c8 c9 : Value} (hra : RowRd w0 2 av c.attrs.length (attrCells c.attrs)) (hrn : RdN w0 c.n (.agg #[c6, c7, c8, c9])) :
    Calls Tryz.prog 10 #[.pointer (some ⟨lb, 0, none⟩), .pointer (some ⟨xb, 0, none⟩), .agg #[.int .i64 c.what, .int .i64 c.a, .int .i64 c.b, .int .i64 c.c, .string c.s, av, c6, c7, c8, c9]] w (DoesIs11 w0 lb xb H) := by
  obtain ⟨m1, m2⟩ := tmod14 c.what
  obtain ⟨m, hm⟩ : ∃ m, (c.what.tmod 14 + 14).tmod 14 = m := ⟨_, rfl⟩
  have h0 : 0 ≤ m ∧ m < 14 := by rw [← hm, Int.tmod_eq_emod_of_nonneg (by omega)]; omega
  have h1 : m = 0 ∨ m = 1 ∨ m = 2 ∨ m = 3 ∨ m = 4 ∨ m = 5 ∨ m = 6 ∨ m = 7 ∨ m = 8 ∨ m = 9 ∨ m = 10 ∨ m = 11 ∨ m = 12 ∨ m = 13 := by omega
  rcases h1 with rfl | rfl | rfl | rfl | rfl | rfl | rfl | rfl | rfl | rfl | rfl | rfl | rfl | rfl
  · exact Does11_e (by decide) hS hl hJ hc hm hra hrn
  · exact Does11_e (by decide) hS hl hJ hc hm hra hrn
  · exact Does11_2 hS hl hJ hc hm hra hrn
  · exact Does11_3 hS hl hJ hc hm hra hrn
  · exact Does11_4 hS hl hJ hc hm hra hrn
  · exact Does11_5 hS hl hJ hc hm hra hrn
  · exact Does11_6 hS hl hJ hc hm hra hrn
  · exact Does11_7 hS hl hJ hc hm hra hrn
  · exact Does11_8 hS hl hJ hc hm hra hrn
  · exact Does11_e (by decide) hS hl hJ hc hm hra hrn
  · exact Does11_10 hS hl hJ hc hm hra hrn
  · exact Does11_11 hS hl hJ hc hm hra hrn
  · exact Does11_12 hS hl hJ hc hm hra hrn
  · exact Does11_13 hS hl hJ hc hm hra hrn
def ClVals (w : World) (c : Cl) (cs : List Value) : Prop := ∃ av c6 c7 c8 c9, cs = [.int .i64 c.what, .int .i64 c.a, .int .i64 c.b, .int .i64 c.c, .string c.s, av, c6, c7, c8, c9] ∧ RowRd w 2 av c.attrs.length (attrCells c.attrs) ∧ RdN w c.n (.agg #[c6, c7, c8, c9])
def clX (cell : Nat → List Value) : Nat → List Value
  | 0 => []
  | k + 1 => clX cell k ++ cell k
theorem clX_len {cell : Nat → List Value} {n : Nat} (h : ∀ j, j < n → (cell j).length = 10) : ∀ k, k ≤ n → (clX cell k).length = k * 10 := by
  intro k
  induction k with
  | zero => intro _; rfl
  | succ k ih =>
    intro hk
    show (clX cell k ++ cell k).length = _
    rw [List.length_append, ih (by omega), h k (by omega)]
    omega
theorem clX_get {cell : Nat → List Value} {n : Nat} (h : ∀ j, j < n → (cell j).length = 10) : ∀ k, k ≤ n → ∀ j i, j < k → i < 10 → (clX cell k)[j * 10 + i]? = (cell j)[i]? := by
  intro k
  induction k with
  | zero => intro _ j i hj; omega
  | succ k ih =>
    intro hk j i hj hi
    show (clX cell k ++ cell k)[j * 10 + i]? = _
    have hl := clX_len h k (by omega)
    by_cases e : j < k
    · rw [List.getElem?_append_left (by omega)]
      exact ih (by omega) j i e hi
    · have : j = k := by omega
      subst this
      rw [List.getElem?_append_right (by omega), hl]
      congr 1
      omega
theorem ClVals.at {w0 w : World} {g : Nat} {cur : Array Value} {t : TypeId} {o : Nat} {c : Cl} {cs : List Value} (h : ClVals w0 c cs) (x : Ext w0 w) (hg : w.heap[g]? = some (.cells cur t (0, 0))) (hc : ∀ i, i < 10 → cur[o + i]? = cs[i]?) : ClAt w ((⟨g, 0, none⟩ : Addr).add o) c := by
  obtain ⟨av, c6, c7, c8, c9, rfl, h1, h2⟩ := h
  have ad : ∀ i : Nat, ((⟨g, 0, none⟩ : Addr).add o).add i = ⟨g, o + i, none⟩ := fun i => by
    rw [Addr.add_lit, Addr.add_lit, Nat.zero_add]
  have ad0 : (⟨g, 0, none⟩ : Addr).add o = ⟨g, o + 0, none⟩ := by rw [Addr.add_lit, Nat.zero_add]; rfl
  refine ⟨av, c6, c7, c8, c9, ?_, ?_, ?_, ?_, ?_, ?_, ?_, ?_, ?_, ?_, h1.ext x, h2.cells fun q y h => x.cells q y h⟩
  · rw [ad0]; exact cellOf hg (hc 0 (by decide))
  · rw [ad]; exact cellOf hg (hc 1 (by decide))
  · rw [ad]; exact cellOf hg (hc 2 (by decide))
  · rw [ad]; exact cellOf hg (hc 3 (by decide))
  · rw [ad]; exact cellOf hg (hc 4 (by decide))
  · rw [ad]; exact cellOf hg (hc 5 (by decide))
  · rw [ad]; exact cellOf hg (hc 6 (by decide))
  · rw [ad]; exact cellOf hg (hc 7 (by decide))
  · rw [ad]; exact cellOf hg (hc 8 (by decide))
  · rw [ad]; exact cellOf hg (hc 9 (by decide))
theorem callsRd_of_row {w0 w : World} {l : List Cl} {cell : Nat → List Value} (hcell : ∀ j c, l[j]? = some c → ClVals w0 c (cell j)) (x : Ext w0 w) {k : Nat} (hk : k ≤ l.length) {p : Nat → Prop} {v : Value} (hr : RowP w p 37 10 v k (clX cell k)) : CallsRd w (l.take k) v := by
  have h10 : ∀ j, j < l.length → (cell j).length = 10 := fun j hj => by
    obtain ⟨c, hc⟩ : ∃ c, l[j]? = some c := ⟨_, List.getElem?_eq_getElem hj⟩
    obtain ⟨av, c6, c7, c8, c9, e, _⟩ := hcell j c hc
    rw [e]; rfl
  have hl : (l.take k).length = k := by rw [List.length_take]; omega
  rcases hr.2 with ⟨rfl, a, rfl⟩ | ⟨g, cap, cur, rfl, q2, q3, q4, q5, q6, q7⟩
  · exact ⟨a, 0, by rw [hl], by omega, by unfold maxLen; omega, fun _ => hl, fun ad _ j c hj => by simp at hj⟩
  · refine ⟨_, cap, by rw [hl], by omega, q5, (fun e => by cases e), fun ad e j c hj => ?_⟩
    cases e
    have hjk : j < k := by have := (List.getElem?_eq_some_iff.1 hj).1; omega
    rw [List.getElem?_take_of_lt hjk] at hj
    refine (hcell j c hj).at x q3 fun i hi => ?_
    rw [← clX_get h10 k hk j i hjk hi, ← q7, List.getElem?_take_of_lt (by omega)]
    simp
theorem addr_add0 (A : Addr) : A.add 0 = A := by simp [Addr.add]
theorem infoCall : (Tryz.prog.info? 37).map (fun i => (i.zero, i.size, i.bytes)) = some (some (.agg #[.int .i64 0, .int .i64 0, .int .i64 0, .int .i64 0, .string ⟨#[]⟩, .slice none 0 0, .int .i64 0, .slice none 0 0, .string ⟨#[]⟩, .slice none 0 0]), 10, 144) := by kernel_rfl
theorem Heavy11 {w : World} {l : List Cl} {v : Value} (hl : CallsRd w l v) : Calls Tryz.prog 6 #[v] w (HeavyIs l w) := by
  obtain ⟨ao, cap, rfl, hc1, hc2, hno, hcl⟩ := hl
  have hsk : ∀ j, ∃ cs, ∀ c, l[j]? = some c → ClVals w c cs ∧ ∀ a, ao = some a → ∀ i v, cs[i]? = some v → w.cell? ((a.add (j * 10)).add i) = some v := by
    intro j
    cases hj : l[j]? with
    | none => exact ⟨[], fun c hc => by cases hc⟩
    | some c =>
      cases ao with
      | none => have := hno rfl; have := (List.getElem?_eq_some_iff.1 hj).1; omega
      | some a =>
        obtain ⟨av, c6, c7, c8, c9, q0, q1, q2, q3, q4, q5, q6, q7, q8, q9, hra, hrn⟩ := hcl a rfl j c hj
        refine ⟨[.int .i64 c.what, .int .i64 c.a, .int .i64 c.b, .int .i64 c.c, .string c.s, av, c6, c7, c8, c9], fun c' hc' => ?_⟩
        cases hc'
        refine ⟨⟨av, c6, c7, c8, c9, rfl, hra, hrn⟩, fun a' ha' i v hv => ?_⟩
        cases ha'
        have hi : i < 10 := (List.getElem?_eq_some_iff.1 hv).1
        rcases i with _ | _ | _ | _ | _ | _ | _ | _ | _ | _ | i
        · cases hv; rw [addr_add0]; exact q0
        · cases hv; exact q1
        · cases hv; exact q2
        · cases hv; exact q3
        · cases hv; exact q4
        · cases hv; exact q5
        · cases hv; exact q6
        · cases hv; exact q7
        · cases hv; exact q8
        · cases hv; exact q9
        · omega
  obtain ⟨cell, hcell⟩ := Classical.skolem.1 hsk
  have hcv : ∀ j c, l[j]? = some c → ClVals w c (cell j) := fun j c hc => (hcell j c hc).1
  have HCV := qh hcv
  have HCELL := qh hcell
  have HNO := qh hno
  have HC := qh (show CallsRd w l (.slice ao l.length cap) from ⟨ao, cap, rfl, hc1, hc2, hno, hcl⟩)
  obtain ⟨m, hm⟩ : ∃ m, l.length = m := ⟨_, rfl⟩
  have HM := qh hm
  rw [hm] at hc1
  unfold maxLen at hc2
  rw [hm]
  obtain ⟨i0, hi, hz0, hz1, hz2⟩ := info_parts infoCall
  have Hi := qh hi
  have Hz0 := qh hz0
  have Hz1 := qh hz1
  have Hz2 := qh hz2
  clear hsk hcell hcv hno hcl hm hi hz0 hz1 hz2
  go_enter Tryz.func6, Tryz.ntmps6
  go_wp2_with fail
  go_loopw [3, 4] (fun v iv wr => ∃ k : Nat, k ≤ m ∧ k ≤ 201 ∧ iv = .int .i64 k ∧ Ext w wr ∧ RowP wr (fun g => w.heap.size ≤ g) 37 10 v k (clX cell k)) (fun _ iv _ => m - (intOf iv).toNat)
  case atStart => exact ⟨0, Nat.zero_le _, by omega, rfl, Ext.refl _, rfl, .inl ⟨rfl, none, rfl⟩⟩
  case round =>
    obtain ⟨k, hkm, hk2, rfl, hx, hrow⟩ := hrel
    obtain ⟨va, vc, rfl, hvc⟩ := hrow.rd.len_of
    have HX := qh hx
    have HROW := qh hrow
    clear hx hrow
    by_cases hlt : k < m ∧ k ≤ 200
    · obtain ⟨hlt1, hlt2⟩ := hlt
      obtain ⟨c, hc⟩ : ∃ c, l[k]? = some c := ⟨_, List.getElem?_eq_getElem (by rw [HM.out]; exact hlt1)⟩
      cases ao with
      | none => have := HNO.out rfl; have := HM.out; omega
      | some a =>
        obtain ⟨b, off, sp⟩ := a
        obtain ⟨av, c6, c7, c8, c9, ecs, hra, hrn⟩ := HCV.out k c hc
        have hcs := (HCELL.out k c hc).2 _ rfl
        rw [ecs] at hcs
        have X := HX.out.cells
        have q0 := X _ _ (hcs 0 _ rfl)
        have q1 := X _ _ (hcs 1 _ rfl)
        have q2 := X _ _ (hcs 2 _ rfl)
        have q3 := X _ _ (hcs 3 _ rfl)
        have q4 := X _ _ (hcs 4 _ rfl)
        have q5 := X _ _ (hcs 5 _ rfl)
        have q6 := X _ _ (hcs 6 _ rfl)
        have q7 := X _ _ (hcs 7 _ rfl)
        have q8 := X _ _ (hcs 8 _ rfl)
        have q9 := X _ _ (hcs 9 _ rfl)
        rw [addr_add0] at q0
        rw [add_pos _ _ (by decide)] at q1 q2 q3 q4 q5 q6 q7 q8 q9
        obtain ⟨aa, acap, eav, _⟩ := hra.len_of
        subst eav
        obtain ⟨n0, n1, en, hna, hnk⟩ := hrn.open
        obtain ⟨naa, nac, en0, _⟩ := hna.len_of
        obtain ⟨nka, nkc, en1, _⟩ := hnk
        subst en0 en1
        cases en
        have hna2 := heap_alloc_new wr (.cells #[.int .i64 c.what, .int .i64 c.a, .int .i64 c.b, .int .i64 c.c, .string c.s, .slice aa c.attrs.length acap, .int .i64 c.n.tag, .slice naa c.n.attrs.length nac, .string c.n.text, .slice nka c.n.kids.length nkc] 37)
        have xa2 := (Ext.refl wr).alloc (.cells #[.int .i64 c.what, .int .i64 c.a, .int .i64 c.b, .int .i64 c.c, .string c.s, .slice aa c.attrs.length acap, .int .i64 c.n.tag, .slice naa c.n.attrs.length nac, .string c.n.text, .slice nka c.n.kids.length nkc] 37)
        obtain ⟨v', wB, row, hrun, hr2, hg2, hrow2⟩ := run_append_row (P := Tryz.prog) (wr.alloc (.cells #[.int .i64 c.what, .int .i64 c.a, .int .i64 c.b, .int .i64 c.c, .string c.s, .slice aa c.attrs.length acap, .int .i64 c.n.tag, .slice naa c.n.attrs.length nac, .string c.n.text, .slice nka c.n.kids.length nkc] 37)) 67 67 37 i0 _ 10 144 Tryz.underlying67 Hi.out Hz0.out Hz1.out Hz2.out (by kernel_rfl) (by decide)
          (RowP.ext HROW.out xa2) ⟨wr.heap.size, 0, none⟩ 1 1 (cell k) (by rw [ecs]; rfl) (by
            intro j u hj
            rw [Addr.add_lit, Nat.zero_add]
            refine cellOf hna2 ?_
            rw [← Array.getElem?_toList, ← hj, ecs]) (by
            intro u hu
            rw [ecs] at hu
            simp only [List.mem_cons, List.not_mem_nil, or_false] at hu
            rcases hu with rfl | rfl | rfl | rfl | rfl | rfl | rfl | rfl | rfl | rfl <;> rfl) (by decide) (by unfold maxLen; omega) (by omega)
        obtain ⟨va2, vc2, rfl, hvc2⟩ := hr2.rd.len_of
        have hsz := HX.out.size
        have HX2 : Hid (Ext w wB) := qh ((HX.out.trans xa2).grown hg2 fun g hg => hrow2 g hg)
        have HROW2 : Hid (RowP wB (fun g => w.heap.size ≤ g) 37 10 (.slice va2 (k + 1) vc2) (k + 1) (clX cell (k + 1))) := qh (hr2.imp fun g _ hg => by
          rcases hg with hg | hg
          · exact hg
          · have := xa2.size; omega)
        have HRUN := qh hrun
        have e0 : decide ((k : Int) < (m : Int)) = true := decide_eq_true (by omega)
        have e0n : decide (k < m) = true := decide_eq_true hlt1
        have e1 : decide ((k : Int) ≤ 200) = true := decide_eq_true (by omega)
        have e1n : decide (k ≤ 200) = true := decide_eq_true hlt2
        have k0 : (0 : Int) ≤ (k : Int) := by omega
        have k1 : (k : Int) < (m : Int) := by omega
        have ktn : (k : Int).toNat = k := by omega
        have HLT1 := qh hlt1
        have HLT2 := qh hlt2
        clear X hcs hra hrn hna hna2 xa2 hrun hr2 hg2 hrow2 hsz hc hlt1 hlt2 hvc2 hvc ecs
        go_wp2_with (at_builtin; refine wpList_append_runL _ rfl _ _ 67 rfl _ _ rfl rfl _ _ HRUN.out ?_)
        go_roundw
        case rel => exact ⟨k + 1, by have := HLT1.out; omega, by have := HLT2.out; omega, by go_num, HX2.out, HROW2.out⟩
        case measure => have := HLT1.out; simp [intOf]; omega
    · have hxk : Ext w wr := HX.out
      have HCR := qh (callsRd_of_row (fun j c hc => HCV.out j c hc) HX.out (by rw [HM.out]; exact hkm) HROW.out)
      by_cases hkk : k < m
      · have h201 : k = 201 := by omega
        have e0 : decide ((k : Int) < (m : Int)) = true := decide_eq_true (by omega)
        have e0n : decide (k < m) = true := decide_eq_true hkk
        have e1 : decide ((k : Int) ≤ 200) = false := decide_eq_false (by omega)
        have e1n : decide (k ≤ 200) = false := decide_eq_false (by omega)
        have e2 : decide ((200 : Int) < (m : Int)) = true := decide_eq_true (by omega)
        have e2n : decide (200 < m) = true := decide_eq_true (by omega)
        clear hkk hlt h201 hxk
        go_wp2_with fail
        refine (Heavy_any HCR.out).mono ?_
        rintro e w2 ⟨hb, rfl, hx2, -⟩
        have HX3 := qh (HX.out.trans hx2)
        clear hx2
        cases hb with
        | true =>
          go_wp2_with fail
          go_ret
          exact ⟨true, rfl, HX3.out, fun e => by cases e⟩
        | false =>
          go_wp2_with fail
          go_ret
          exact ⟨true, rfl, HX3.out, fun e => by cases e⟩
      · have hke : k = m := by omega
        have HKE := qh hke
        have e0 : decide ((k : Int) < (m : Int)) = false := decide_eq_false (by omega)
        have e0n : decide (k < m) = false := decide_eq_false hkk
        have htk : l.take k = l := by rw [hke, ← HM.out, List.take_length]
        rw [htk] at HCR
        clear hkk hlt hxk hke htk
        go_wp2_with fail
        refine (Heavy_any HCR.out).mono ?_
        rintro e w2 ⟨hb, rfl, hx2, hli⟩
        have HX3 := qh (HX.out.trans hx2)
        have HLI := qh hli
        clear hx2 hli
        cases hb with
        | true =>
          go_wp2_with fail
          go_ret
          exact ⟨true, rfl, HX3.out, fun e => by cases e⟩
        | false =>
          have hlg := HLI.out rfl
          have e2 : decide ((200 : Int) < (m : Int)) = false := decide_eq_false (by have := hlg.1; have := HM.out; omega)
          have e2n : decide (200 < m) = false := decide_eq_false (by have := hlg.1; have := HM.out; omega)
          have HLG := qh hlg
          clear hlg
          go_wp2_with fail
          go_ret
          exact ⟨false, rfl, HX3.out, fun _ => HLG.out⟩
end Go.Proofs.YthgnbbbdcebjhaaGreat
namespace Go.Proofs.YthgnbbbdcebjhaaGreat
open Go Go.RowKit Go.BigFrame Go.ChangeShapes Go.WideShapes Go.Deep
theorem attrCells_len (l : List (ByteArray × ByteArray)) : (attrCells l).length = l.length * 2 := by
  induction l with
  | nil => rfl
  | cons p r ih => obtain ⟨a, b⟩ := p; simp only [attrCells, List.length_cons, ih]; omega

theorem exists_row {α : Type} (n : Nat) (P : Nat → α → Prop) (h : ∀ i, i < n → ∃ x, P i x) : ∃ l : List α, l.length = n ∧ ∀ (i : Nat) x, l[i]? = some x → P i x := by
  induction n with
  | zero => exact ⟨[], rfl, fun i x hx => by simp at hx⟩
  | succ n ih =>
    obtain ⟨l, h1, h2⟩ := ih fun i hi => h i (by omega)
    obtain ⟨x, hx⟩ := h n (by omega)
    refine ⟨l ++ [x], by simp [h1], fun i y hy => ?_⟩
    rw [List.getElem?_append] at hy
    split at hy
    · exact h2 i y hy
    · rcases Nat.eq_zero_or_pos (i - l.length) with h0 | h0
      · rw [h0] at hy; simp at hy
        obtain rfl : i = n := by omega
        exact hy ▸ hx
      · rw [List.getElem?_eq_none (by simp; omega)] at hy; cases hy
theorem attrCells_get (l : List (ByteArray × ByteArray)) : ∀ (j : Nat) (x : Value), (attrCells l)[j]? = some x → ∃ p, l[j / 2]? = some p ∧ x = if j % 2 = 0 then .string p.1 else .string p.2 := by
  induction l with
  | nil => intro j x h; simp [attrCells] at h
  | cons q r ih =>
    obtain ⟨a, b⟩ := q
    intro j x h
    match j, h with
    | 0, h => simp [attrCells] at h; exact ⟨(a, b), by simp, by simp [h]⟩
    | 1, h => simp [attrCells] at h; exact ⟨(a, b), by simp, by simp [h]⟩
    | j + 2, h =>
      simp only [attrCells, List.getElem?_cons_succ] at h
      obtain ⟨p, h1, h2⟩ := ih j x h
      exact ⟨p, by rw [show (j + 2) / 2 = j / 2 + 1 by omega]; simpa using h1, by rw [show (j + 2) % 2 = j % 2 by omega]; exact h2⟩
section
variable {H : Type} {enc : TypeId × Value → H} {w : World} {base : Nat} {spare : Nat → Bool} {held : Bool}
theorem cells_at {a : Addr} {n : Nat} {cs : List Value} (h : w.cells? base a n = some cs) {i : Nat} {v : Value} (hi : cs[i]? = some v) : w.cell? (a.add i) = some v := by
  obtain ⟨_, hl, hg⟩ := World.cells?_some h
  have := (List.getElem?_eq_some_iff.1 hi).1
  rw [hg i (by omega)]; exact hi
theorem slice_elems {t e : TypeId} {fuel : Nat} {cs : List Value} {x : DataW H × List MemPlace} (ht : Tryz.prog.underlying t = some (.slice e)) (h : DataW.trod enc Tryz.prog w base spare held fuel t cs = some x) :
    cs = [.slice none 0 0] ∨ ∃ (a : Addr) (len cap n : Nat), fuel = n + 1 ∧ cs = [.slice (some a) len cap] ∧ len ≤ cap ∧ cap ≤ maxLen ∧
      ∀ i, i < len → ∃ cs' y, w.cells? base (a.add (i * Tryz.prog.cellsOf e)) (Tryz.prog.cellsOf e) = some cs' ∧ DataW.trod enc Tryz.prog w base spare held n e cs' = some y := by
  rcases DataW.trod_slice ht h with ⟨h0, _⟩ | ⟨a, len, cap, elems, rest, n, hn, hc, _, hb, hl, hm, hlen, hel, _⟩
  · exact .inl h0
  · refine .inr ⟨a, len, cap, n, hn, hc, hl, hm, fun i hi => ?_⟩
    have key := hel i hi
    rw [List.getElem?_eq_getElem (by omega)] at key
    obtain ⟨cs', h1, h2⟩ := Option.bind_eq_some_iff.1 key
    exact ⟨cs', _, h1, h2⟩
theorem read_attrs {fuel : Nat} {cs : List Value} {x : DataW H × List MemPlace} (h : DataW.trod enc Tryz.prog w base spare held fuel 32 cs = some x) :
    ∃ (v : Value) (l : List (ByteArray × ByteArray)), cs = [v] ∧ RowRd w 2 v l.length (attrCells l) := by
  rcases slice_elems Tryz.underlying32 h with rfl | ⟨a, len, cap, n, _, rfl, hl, hm, hi⟩
  · exact ⟨_, [], rfl, ⟨rfl, none, 0, rfl, Nat.le_refl _, fun _ => ⟨rfl, rfl⟩, fun a h => by cases h⟩⟩
  · have hC : Tryz.prog.cellsOf 110 = 2 := by kernel_rfl
    obtain ⟨l, h1, h2⟩ := exists_row len (fun i (p : ByteArray × ByteArray) => w.cell? (a.add (i * 2)) = some (.string p.1) ∧ w.cell? (a.add (i * 2 + 1)) = some (.string p.2)) fun i hil => by
      obtain ⟨cs', y, hc, ht⟩ := hi i (by omega)
      rw [hC] at hc
      obtain ⟨ys, n', rfl, _, hcl, hyl, hf⟩ := DataW.trod_struct Tryz.underlying110 ht
      rw [hC] at hcl
      have hS : Tryz.prog.cellsOf 9 = 1 := by kernel_rfl
      match cs', hcl with
      | [u0, u1], _ =>
        have g0 := hf 0 { name := _, type := 9, offset := 0, embedded := _, tag := _, pkgPath := _, byteOffset := _ } rfl
        have g1 := hf 1 { name := _, type := 9, offset := 1, embedded := _, tag := _, pkgPath := _, byteOffset := _ } rfl
        simp only [hS] at g0 g1
        match ys, hyl with
        | [y0, y1], _ =>
          obtain ⟨s0, e0, _⟩ := DataW.trod_string Tryz.underlying9 (x := y0) g0
          obtain ⟨s1, e1, _⟩ := DataW.trod_string Tryz.underlying9 (x := y1) g1
          simp at e0 e1
          subst e0 e1
          refine ⟨(s0, s1), cells_at hc (i := 0) rfl, ?_⟩
          have := cells_at hc (i := 1) (v := .string s1) rfl
          rw [Go.Deep.add_add] at this
          exact this
    refine ⟨_, l, rfl, ⟨by rw [attrCells_len], some a, cap, by rw [h1], by omega, (fun h => by cases h), fun a' ha j x hx => ?_⟩⟩
    cases ha
    obtain ⟨p, q1, q2⟩ := attrCells_get l j x hx
    have := h2 _ p q1
    rcases Nat.mod_two_eq_zero_or_one j with h0 | h0
    · rw [q2, if_pos h0, ← this.1, show j / 2 * 2 = j by omega]
    · rw [q2, if_neg (by omega), ← this.2, show j / 2 * 2 + 1 = j by omega]
theorem read_node : ∀ (fuel : Nat) (cs : List Value) (x : DataW H × List MemPlace), DataW.trod enc Tryz.prog w base spare held fuel 35 cs = some x →
    ∃ (c0 c1 c2 c3 : Value) (n : PN), cs = [c0, c1, c2, c3] ∧ RdN w n (.agg #[c0, c1, c2, c3]) := by
  intro fuel
  induction fuel using Nat.strongRecOn with
  | _ fuel ih =>
  intro cs x h
  have hC : Tryz.prog.cellsOf 35 = 4 := by kernel_rfl
  have hS : Tryz.prog.cellsOf 9 = 1 := by kernel_rfl
  have hI : Tryz.prog.cellsOf 3 = 1 := by kernel_rfl
  have hA : Tryz.prog.cellsOf 32 = 1 := by kernel_rfl
  have hK : Tryz.prog.cellsOf 33 = 1 := by kernel_rfl
  obtain ⟨ys, n, hfu, _, hcl, hyl, hf⟩ := DataW.trod_struct Tryz.underlying35 h
  rw [hC] at hcl
  match cs, hcl with
  | [c0, c1, c2, c3], _ =>
    have g0 := hf 0 { name := _, type := 3, offset := 0, embedded := _, tag := _, pkgPath := _, byteOffset := _ } rfl
    have g1 := hf 1 { name := _, type := 32, offset := 1, embedded := _, tag := _, pkgPath := _, byteOffset := _ } rfl
    have g2 := hf 2 { name := _, type := 9, offset := 2, embedded := _, tag := _, pkgPath := _, byteOffset := _ } rfl
    have g3 := hf 3 { name := _, type := 33, offset := 3, embedded := _, tag := _, pkgPath := _, byteOffset := _ } rfl
    simp only [hS, hI, hA, hK] at g0 g1 g2 g3
    match ys, hyl with
    | [y0, y1, y2, y3], _ =>
      obtain ⟨tag, e0, _⟩ := DataW.trod_int Tryz.underlying3 (x := y0) g0
      obtain ⟨av, attrs, e1, hattrs⟩ := read_attrs (x := y1) g1
      obtain ⟨s, e2, _⟩ := DataW.trod_string Tryz.underlying9 (x := y2) g2
      simp at e0 e1 e2
      subst e0 e1 e2
      have g3' : DataW.trod enc Tryz.prog w base spare held n 33 [c3] = some y3 := g3
      rcases slice_elems Tryz.underlying33 g3' with e3 | ⟨a, len, cap, n', hn', e3, hl, hm, hi⟩
      · simp at e3
        subst e3
        exact ⟨_, _, _, _, .mk tag attrs s [], rfl, RdN.mk' (n := .mk tag attrs s []) hattrs ⟨none, 0, rfl, Nat.le_refl _, Nat.zero_le _, fun _ => ⟨rfl, rfl⟩, fun a h => by cases h⟩⟩
      · simp at e3
        subst e3
        obtain ⟨l, h1, h2⟩ := exists_row len (fun i (k : PN) => ∃ c0 c1 c2 c3, w.cell? (a.add (i * 4)) = some c0 ∧ w.cell? (a.add (i * 4 + 1)) = some c1 ∧ w.cell? (a.add (i * 4 + 2)) = some c2 ∧ w.cell? (a.add (i * 4 + 3)) = some c3 ∧ RdN w k (.agg #[c0, c1, c2, c3])) fun i hil => by
          obtain ⟨cs', y, hc, ht⟩ := hi i (by omega)
          rw [hC] at hc
          obtain ⟨d0, d1, d2, d3, k, rfl, hk⟩ := ih n' (by omega) cs' _ ht
          refine ⟨k, d0, d1, d2, d3, cells_at hc (i := 0) rfl, ?_, ?_, ?_, hk⟩
          · have := cells_at hc (i := 1) (v := d1) rfl; rw [Go.Deep.add_add] at this; exact this
          · have := cells_at hc (i := 2) (v := d2) rfl; rw [Go.Deep.add_add] at this; exact this
          · have := cells_at hc (i := 3) (v := d3) rfl; rw [Go.Deep.add_add] at this; exact this
        exact ⟨_, _, _, _, .mk tag attrs s l, rfl, RdN.mk' (n := .mk tag attrs s l) hattrs ⟨some a, cap, by rw [show (PN.mk tag attrs s l).kids.length = len from h1], by rw [show (PN.mk tag attrs s l).kids.length = len from h1]; exact hl, hm, (fun h => by cases h), fun a' ha j k hk => (by cases ha; exact h2 j k hk)⟩⟩
end
section
variable {H : Type} {enc : TypeId × Value → H} {w : World} {base : Nat} {spare : Nat → Bool} {held : Bool}
theorem read_call {fuel : Nat} {cs : List Value} {x : DataW H × List MemPlace} (ht : DataW.trod enc Tryz.prog w base spare held fuel 37 cs = some x) :
    ∃ (c : Cl) (av c6 c7 c8 c9 : Value), cs = [.int .i64 c.what, .int .i64 c.a, .int .i64 c.b, .int .i64 c.c, .string c.s, av, c6, c7, c8, c9] ∧ RowRd w 2 av c.attrs.length (attrCells c.attrs) ∧ RdN w c.n (.agg #[c6, c7, c8, c9]) := by
  have hC : Tryz.prog.cellsOf 37 = 10 := by kernel_rfl
  have hS : Tryz.prog.cellsOf 9 = 1 := by kernel_rfl
  have hI : Tryz.prog.cellsOf 3 = 1 := by kernel_rfl
  have hA : Tryz.prog.cellsOf 32 = 1 := by kernel_rfl
  have hN : Tryz.prog.cellsOf 35 = 4 := by kernel_rfl
  obtain ⟨ys, n', rfl, _, hcl, hyl, hf⟩ := DataW.trod_struct Tryz.underlying37 ht
  rw [hC] at hcl
  match cs, hcl with
  | [u0, u1, u2, u3, u4, u5, u6, u7, u8, u9], _ =>
    have g0 := hf 0 { name := _, type := 3, offset := 0, embedded := _, tag := _, pkgPath := _, byteOffset := _ } rfl
    have g1 := hf 1 { name := _, type := 3, offset := 1, embedded := _, tag := _, pkgPath := _, byteOffset := _ } rfl
    have g2 := hf 2 { name := _, type := 3, offset := 2, embedded := _, tag := _, pkgPath := _, byteOffset := _ } rfl
    have g3 := hf 3 { name := _, type := 3, offset := 3, embedded := _, tag := _, pkgPath := _, byteOffset := _ } rfl
    have g4 := hf 4 { name := _, type := 9, offset := 4, embedded := _, tag := _, pkgPath := _, byteOffset := _ } rfl
    have g5 := hf 5 { name := _, type := 32, offset := 5, embedded := _, tag := _, pkgPath := _, byteOffset := _ } rfl
    have g6 := hf 6 { name := _, type := 35, offset := 6, embedded := _, tag := _, pkgPath := _, byteOffset := _ } rfl
    simp only [hS, hI, hA, hN] at g0 g1 g2 g3 g4 g5 g6
    match ys, hyl with
    | [y0, y1, y2, y3, y4, y5, y6], _ =>
      obtain ⟨z0, e0, _⟩ := DataW.trod_int Tryz.underlying3 (x := y0) g0
      obtain ⟨z1, e1, _⟩ := DataW.trod_int Tryz.underlying3 (x := y1) g1
      obtain ⟨z2, e2, _⟩ := DataW.trod_int Tryz.underlying3 (x := y2) g2
      obtain ⟨z3, e3, _⟩ := DataW.trod_int Tryz.underlying3 (x := y3) g3
      obtain ⟨s4, e4, _⟩ := DataW.trod_string Tryz.underlying9 (x := y4) g4
      obtain ⟨v5, attrs, e5, hattrs⟩ := read_attrs (x := y5) g5
      obtain ⟨d0, d1, d2, d3, pn, e6, hpn⟩ := read_node n' _ y6 g6
      simp at e0 e1 e2 e3 e4 e5 e6
      obtain ⟨e6, e7, e8, e9⟩ := e6
      subst e0 e1 e2 e3 e4 e5 e6 e7 e8 e9
      exact ⟨⟨z0, z1, z2, z3, s4, attrs, pn⟩, _, _, _, _, _, rfl, hattrs, hpn⟩
theorem read_call11 {fuel : Nat} {cs : List Value} {x : DataW H × List MemPlace} (ht : DataW.trod enc Tryz.prog w base spare held fuel 39 cs = some x) :
    ∃ (c : Cl) (av c6 c7 c8 c9 : Value), cs = [.int .i64 c.what, .int .i64 c.a, .int .i64 c.b, .int .i64 c.c, .string c.s, av, c6, c7, c8, c9] ∧ RowRd w 2 av c.attrs.length (attrCells c.attrs) ∧ RdN w c.n (.agg #[c6, c7, c8, c9]) := by
  have hC : Tryz.prog.cellsOf 39 = 10 := by kernel_rfl
  have hC8 : Tryz.prog.cellsOf 37 = 10 := by kernel_rfl
  obtain ⟨ys, n', rfl, _, hcl, hyl, hf⟩ := DataW.trod_struct Tryz.underlying39 ht
  rw [hC] at hcl
  have g0 := hf 0 { name := _, type := 37, offset := 0, embedded := _, tag := _, pkgPath := _, byteOffset := _ } rfl
  simp only [hC8] at g0
  rw [List.drop_zero, List.take_of_length_le (by omega)] at g0
  obtain ⟨y, hy⟩ : ∃ y, ys[0]? = some y := ⟨_, List.getElem?_eq_getElem (by rw [hyl]; decide)⟩
  exact read_call (x := y) (by rw [← hy]; exact g0)
theorem read_calls11 {v : Value} {d : DataW H} {p : List MemPlace} (h : DataW.Trod enc Tryz.prog w base spare held 22 v d p) (hv : v.cells.toList = [v]) : ∃ l, CallsRd w l v := by
  obtain ⟨fuel, h⟩ := h
  rw [hv] at h
  have hC : Tryz.prog.cellsOf 39 = 10 := by kernel_rfl
  rcases slice_elems Tryz.underlying22 h with e | ⟨a, len, cap, n, _, e, hl, hm, hi⟩
  · simp at e; subst e
    exact ⟨[], none, 0, rfl, Nat.le_refl _, Nat.zero_le _, fun _ => rfl, fun a h => by cases h⟩
  · simp at e; subst e
    obtain ⟨l, h1, h2⟩ := exists_row len (fun i (c : Cl) => ClAt w (a.add (i * 10)) c) fun i hil => by
      obtain ⟨cs', y, hc, ht⟩ := hi i hil
      rw [hC] at hc
      obtain ⟨c, av, c6, c7, c8, c9, rfl, hattrs, hpn⟩ := read_call11 ht
      exact ⟨c, _, _, _, _, _, cells_at hc (i := 0) rfl, cells_at hc (i := 1) rfl, cells_at hc (i := 2) rfl, cells_at hc (i := 3) rfl, cells_at hc (i := 4) rfl, cells_at hc (i := 5) rfl, cells_at hc (i := 6) rfl, cells_at hc (i := 7) rfl, cells_at hc (i := 8) rfl, cells_at hc (i := 9) rfl, hattrs, hpn⟩
    exact ⟨l, some a, cap, by rw [h1], by omega, hm, (fun h => by cases h), fun a' ha k c hk => (by cases ha; exact h2 k c hk)⟩
end
theorem keep_calls11 {H : Type} {enc : TypeId × Value → H} {w : World} {b0 base : Nat} {spare : Nat → Bool} {held : Bool} {v : Value} {d : DataW H} {p : List MemPlace}
    (hv : Value.okWide Tryz.prog w .any b0 22 v) (h : DataW.Trod enc Tryz.prog w base spare held 22 v d p) : ∃ l, CallsRd w l v := by
  obtain ⟨a, len, cap, rfl⟩ := okWide_slice Tryz.underlying22 hv
  exact read_calls11 h rfl
end Go.Proofs.YthgnbbbdcebjhaaGreat
namespace Go.Proofs.YthgnbbbdcebjhaaGreat
open Go Go.RowKit Go.BigFrame Go.ChangeShapes Go.WideShapes
theorem lNew_no (cap deep : Int) (h : ¬ (1 ≤ cap ∧ cap ≤ 2000 ∧ 0 ≤ deep ∧ deep ≤ 40)) (w : World) :
    Calls Tryz.prog 8 #[.int .i64 cap, .int .i64 deep] w (RTwo (.pointer none) (.int .i64 1) w) := by
  have HN := qh (New_no cap deep h w)
  clear h
  go_enter Tryz.func8, Tryz.ntmps8
  go_wp2_with (go_at_call 29; refine HN.out.mono ?_; rintro e w1 ⟨rfl, hx1⟩; have HX := qh hx1; clear hx1)
  go_ret2
  exact ⟨rfl, HX.out⟩
theorem LJ.start {w0 w2 w3 : World} {own : Ow} {ptr : Nat → Nat} {lb tb xb rb : Nat} {T : Tr} {hv : Value} {hb : Option Nat} {H : List Hd} (hL : LiveAt w2 own ptr lb tb T hv hb H) (h5 : ∀ b, Lv own lb hb b → w0.heap.size ≤ b) (hD : DocOn w3 (fun b => w2.heap.size ≤ b) xb rb T (iOf H) (pOf H)) (x0 : Ext w0 w2) (x : Ext w2 w3) :
    LJ w0 w3 lb xb T H T H w0 (fun _ => False) := by
  have hs := x0.size
  refine ⟨⟨own, ptr, tb, hv, hb, _, rb, hL.ext x, hD.lt, fun b hb' => ⟨fun e => ?_, hb'.2, ?_⟩, h5, fun q y hq => ?_, fun b h => h.elim⟩, x0.trans x⟩
  · have h1 := hL.lv_lt e
    have h2 := hb'.1
    omega
  · have h2 := hb'.1
    omega
  · have hl := World.block_lt_of_cell? _ _ hq
    refine ⟨(x0.trans x).cells _ _ hq, fun e => ?_, fun hf => ?_⟩
    · have := h5 _ e; omega
    · have := hf.1; omega
theorem hostGood (cap deep : Int) (h1 : 1 ≤ cap) (h2 : cap ≤ 2000) (h3 : 0 ≤ deep) (h4 : deep ≤ 40) : StOk (hostOf cap deep) [] :=
  ⟨⟨⟨_, hostOf_wf cap deep h1 h2 h3 h4⟩, fun i nd hi => by
    cases i with
    | zero => cases hi; simp [NdOk]
    | succ i => cases hi⟩, (fun x hx => by cases hx), (fun x hx => by cases hx)⟩
def PlayedIs (w0 : World) (n : Nat) (e : Ending) (w' : World) : Prop := (e = .returned (.pointer none) ∧ Ext w0 w') ∨ ∃ (lb xb : Nat) (T : Tr) (H : List Hd), e = .returned (.pointer (some ⟨lb, 0, none⟩)) ∧ StOk T H ∧ H.length ≤ n ∧ LJ w0 w' lb xb T H T H w0 (fun _ => False)
theorem played_any (cap deep : Int) {w w1 : World} {v : Value} {l : List Cl} (hl : CallsRd w l v) (hx1 : Ext w w1) (hlt : Light l) :
    Calls Tryz.prog 19 #[.int .i64 cap, .int .i64 deep, v] w1 (PlayedIs w l.length) := by
  obtain ⟨ao, vcap, rfl, hc1, hc2, hno, hcl⟩ := hl
  have HNO := qh hno
  have HCL := qh hcl
  unfold maxLen at hc2
  have HG := qh hlt.2
  have hl2 := hlt.1
  have HX1 := qh hx1
  clear hno hcl hlt hx1
  go_enter Tryz.func19, Tryz.ntmps19
  by_cases hroom : 1 ≤ cap ∧ cap ≤ 2000 ∧ 0 ≤ deep ∧ deep ≤ 40
  · obtain ⟨h1, h2, h3, h4⟩ := hroom
    have HGOOD := qh (hostGood cap deep h1 h2 h3 h4)
    go_wp2_with fail
    refine (lNew_ok cap deep h1 h2 h3 h4 _).mono ?_
    rintro e w2 ⟨lb, tb1, own1, ptr1, rfl, hT1, hx2, hlb, hf1⟩
    have HT1 := qh hT1
    have HX2 := qh hx2
    have HF1 := qh (And.intro hlb hf1)
    clear hT1 hx2 hlb hf1
    go_wp2_with fail
    refine (dNew_ok cap deep h1 h2 h3 h4 _).mono ?_
    rintro e w3 ⟨xb, rb1, rfl, hx3, hD3⟩
    have HJ0 : Hid (LJ w w3 lb xb (hostOf cap deep) [] (hostOf cap deep) [] w (fun _ => False)) := qh (LJ.start HT1.out (fun b hb => by
      have h1 := HX1.out.size
      rcases hb with e | e | e
      · have := HF1.out.2 b e; omega
      · have := HF1.out.1; omega
      · cases e) hD3 (HX1.out.trans HX2.out) hx3)
    clear hx3 hD3 h1 h2 h3 h4
    go_wp2_with fail
    go_loopw [10] (fun i wr => ∃ (k : Nat) (T : Tr) (H : List Hd), k ≤ l.length ∧ i = .int .i64 k ∧ StOk T H ∧ H.length ≤ k ∧ LJ w wr lb xb T H T H w (fun _ => False)) (fun i _ => l.length - (intOf i).toNat)
    case atStart => exact ⟨0, _, [], Nat.zero_le _, rfl, HGOOD.out, Nat.le_refl _, HJ0.out⟩
    case round =>
      rename World => wo
      obtain ⟨k, T, H, hk, rfl, hst, hlen, hj⟩ := hrel
      clear HJ0
      have HST := qh hst
      have HLEN := qh hlen
      have HJ := qh hj
      clear hst hj hlen
      by_cases hkk : k < l.length
      · obtain ⟨c, hc⟩ : ∃ c, l[k]? = some c := ⟨l[k], by simp [hkk]⟩
        have HLC := qh (HG.out c (List.mem_of_getElem? hc))
        cases ao with
        | none => exact absurd (HNO.out rfl) (by omega)
        | some a =>
          obtain ⟨b, off, sp⟩ := a
          obtain ⟨av, c6, c7, c8, c9, q0, q1, q2, q3, q4, q5, q6, q7, q8, q9, hra, hrn⟩ := HCL.out _ rfl k c hc
          have X := HJ.out.ext.cells
          replace q0 := X _ _ q0
          replace q1 := X _ _ q1
          replace q2 := X _ _ q2
          replace q3 := X _ _ q3
          replace q4 := X _ _ q4
          replace q5 := X _ _ q5
          replace q6 := X _ _ q6
          replace q7 := X _ _ q7
          replace q8 := X _ _ q8
          replace q9 := X _ _ q9
          rw [add_pos _ _ (by decide)] at q1 q2 q3 q4 q5 q6 q7 q8 q9
          obtain ⟨aa, acap, eav, _⟩ := hra.len_of
          subst eav
          obtain ⟨n0, n1, en, hna, hnk⟩ := hrn.open
          obtain ⟨naa, nac, en0, _⟩ := hna.len_of
          obtain ⟨nka, nkc, en1, _⟩ := hnk
          subst en0 en1
          cases en
          have HRA := qh hra
          have HRN := qh hrn
          have HK := qh hkk
          clear X hra hrn hc hna
          go_wp2_with fail
          refine (Does11_ok HST.out (by have := HLEN.out; omega) HJ.out HLC.out HRA.out HRN.out).mono ?_
          rintro e u1 ⟨rfl, T', H', hst', hlen', hj'⟩
          have HST' := qh hst'
          have HLEN' := qh hlen'
          have HJ' := qh hj'
          clear hst' hlen' hj' q0 q1 q2 q3 q4 q5 q6 q7 q8 q9
          go_wp2_with fail
          go_roundw
          case rel => exact ⟨k + 1, T', H', by have := HK.out; omega, by go_num, HST'.out, by have := HLEN.out; have := HLEN'.out; omega, HJ'.out⟩
          case measure => have := HK.out; simp [intOf]; omega
      · have hke : k = l.length := by omega
        have HKE := qh hke
        clear hke
        go_wp2_with fail
        go_ret
        exact .inr ⟨lb, xb, T, H, rfl, HST.out, by have := HLEN.out; have := HKE.out; omega, HJ.out⟩
  · go_wp2_with fail
    refine (lNew_no cap deep hroom _).mono ?_
    rintro e w2 ⟨rfl, hx2⟩
    go_wp2_with fail
    refine (dNew_no cap deep hroom _).mono ?_
    rintro e w3 ⟨rfl, rfl⟩
    go_wp2_with fail
    go_ret
    exact .inl ⟨rfl, HX1.out.trans hx2⟩
end Go.Proofs.YthgnbbbdcebjhaaGreat
namespace Go.Proofs.YthgnbbbdcebjhaaGreat
open Go Go.RowKit
section
variable {T T' : Tr} {H H' : List Hd}
def OrdKept (T T' : Tr) (an aat bn bat : Int) (p q : Int × Int) : Prop := T'.cmpOk p.1 p.2 q.1 q.2 = true ∧ 0 ≤ T'.cmp p.1 p.2 q.1 q.2 * T.cmp an aat bn bat ∧ T'.count = T.count
theorem cmpOk_iff (T : Tr) (an aat bn bat : Int) : T.cmpOk an aat bn bat = true ↔ T.may an aat = true ∧ T.may bn bat = true ∧ T.rootOf an = T.rootOf bn := by
  unfold Tr.cmpOk
  rw [Bool.and_eq_true, Bool.and_eq_true, decide_eq_true_eq, and_assoc]
theorem cmp_is {T : Tr} {an aat bn bat : Int} (h : T.cmpOk an aat bn bat = true) : T.cmp an aat bn bat = cmpL (rowL (T.pathOf an) aat) (rowL (T.pathOf bn) bat) := by
  unfold Tr.cmp
  rw [h]; rfl
theorem ord_of {an aat bn bat : Int} {p q : Int × Int} (hok : T.cmpOk an aat bn bat = true) (m1 : T'.may p.1 p.2 = true) (m2 : T'.may q.1 q.2 = true) (hr : T'.rootOf p.1 = T'.rootOf q.1)
    (h1 : cmpL (rowL (T.pathOf an) aat) (rowL (T.pathOf bn) bat) ≤ 0 → cmpL (rowL (T'.pathOf p.1) p.2) (rowL (T'.pathOf q.1) q.2) ≤ 0)
    (h2 : cmpL (rowL (T.pathOf bn) bat) (rowL (T.pathOf an) aat) ≤ 0 → cmpL (rowL (T'.pathOf q.1) q.2) (rowL (T'.pathOf p.1) p.2) ≤ 0) (hc : T'.count = T.count) : OrdKept T T' an aat bn bat p q := by
  have hok' : T'.cmpOk p.1 p.2 q.1 q.2 = true := (cmpOk_iff _ _ _ _ _).2 ⟨m1, m2, hr⟩
  refine ⟨hok', ?_, hc⟩
  rw [cmp_is hok, cmp_is hok']
  rw [cmpL_anti (rowL (T.pathOf an) aat), cmpL_anti (rowL (T'.pathOf p.1) p.2)] at h2
  rcases cmpL_range (rowL (T.pathOf an) aat) (rowL (T.pathOf bn) bat) with e | e | e
  · rcases cmpL_range (rowL (T'.pathOf p.1) p.2) (rowL (T'.pathOf q.1) q.2) with k | k | k
    · rw [e, k]; decide
    · rw [e, k]; decide
    · rw [e, k] at h1; exact absurd (h1 (by decide)) (by decide)
  · rw [e]; simp
  · rcases cmpL_range (rowL (T'.pathOf p.1) p.2) (rowL (T'.pathOf q.1) q.2) with k | k | k
    · rw [e, k] at h2; exact absurd (h2 (by decide)) (by decide)
    · rw [e, k]; decide
    · rw [e, k]; decide
theorem ord_same {an aat bn bat : Int} (hok : T.cmpOk an aat bn bat = true) : OrdKept T T an aat bn bat (an, aat) (bn, bat) := by
  obtain ⟨m1, m2, hr⟩ := (cmpOk_iff _ _ _ _ _).1 hok
  exact ord_of hok m1 m2 hr (fun h => h) (fun h => h) rfl
def newP (er : Int) (f : Int → Int → Int × Int) (n a : Int) : Int × Int := if er = 0 then f n a else (n, a)
theorem movedIf_at {er : Int} {f : Int → Int → Int × Int} {k : Nat} {n a : Int} (h : H[k]? = some ⟨n, a, 0⟩) : (movedIf er f H)[k]? = some ⟨(newP er f n a).1, (newP er f n a).2, 0⟩ := by
  unfold movedIf newP
  by_cases e : er = 0
  · rw [if_pos e, if_pos e, List.getElem?_map, h]
    rfl
  · rw [if_neg e, if_neg e, h]
theorem held_may (h : StOk T H) {k : Nat} {n a : Int} (hk : H[k]? = some ⟨n, a, 0⟩) : T.may n a = true := h.may _ (List.mem_of_getElem? hk) rfl
theorem ord_ins (hS : StOk T H) {p q k er : Int} (ht : InsTold T T' p q k er) (hS' : StOk T' (movedIf er (insP p q 1) H)) {i j : Nat} {an aat bn bat : Int} (hi : H[i]? = some ⟨an, aat, 0⟩) (hj : H[j]? = some ⟨bn, bat, 0⟩) (hok : T.cmpOk an aat bn bat = true) :
    OrdKept T T' an aat bn bat (newP er (insP p q 1) an aat) (newP er (insP p q 1) bn bat) := by
  have ma := held_may hS' (movedIf_at (er := er) (f := insP p q 1) hi)
  have mb := held_may hS' (movedIf_at (er := er) (f := insP p q 1) hj)
  rcases ht with ⟨e, rfl⟩ | ⟨rfl, p', a', k', pd, kd, rfl, rfl, rfl, h1, h2, h3, h4, h5, h6, rfl⟩
  · unfold newP
    rw [if_neg e, if_neg e]
    exact ord_same hok
  · obtain ⟨⟨d, hw⟩, _⟩ := hS.good
    obtain ⟨⟨d', hw'⟩, _⟩ := hS'.good
    have hl := linked_link hw hw' h1 h2 h4 h5 h6
    obtain ⟨_, _, hr⟩ := (cmpOk_iff _ _ _ _ _).1 hok
    have c1 := hl.cmp hw hw' aat bat hr
    have c2 := hl.cmp hw hw' bat aat hr.symm
    exact ord_of hok ma mb c1.1 c1.2 c2.2 rfl
theorem ord_rem (hS : StOk T H) {id er : Int} (ht : RemTold T T' id er) (hS' : StOk T' (movedIf er (remP T' id (T.up id) (T.idx id)) H)) {i j : Nat} {an aat bn bat : Int} (hi : H[i]? = some ⟨an, aat, 0⟩) (hj : H[j]? = some ⟨bn, bat, 0⟩) (hok : T.cmpOk an aat bn bat = true) :
    OrdKept T T' an aat bn bat (newP er (remP T' id (T.up id) (T.idx id)) an aat) (newP er (remP T' id (T.up id) (T.idx id)) bn bat) := by
  have ma := held_may hS' (movedIf_at (er := er) (f := remP T' id (T.up id) (T.idx id)) hi)
  have mb := held_may hS' (movedIf_at (er := er) (f := remP T' id (T.up id) (T.idx id)) hj)
  rcases ht with ⟨e, rfl⟩ | ⟨rfl, p', k', pd, kd, rfl, h1, h2, h3, h4, h5, rfl⟩
  · unfold newP
    rw [if_neg e, if_neg e]
    exact ord_same hok
  · obtain ⟨⟨d, hw⟩, ha⟩ := hS.good
    obtain ⟨⟨d', hw'⟩, ha'⟩ := hS'.good
    have hgk := Tr.get_of h2
    have hl := linked_unlink hw hw' h1 h2 h5 h3 (hw.kids p' pd h1).1 h4
    have hup : T.up (k' : Int) = (p' : Int) := by rw [Tr.up_some hgk, h3]
    have hix : T.idx (k' : Int) = (pd.kids.idxOf (k' : Int) : Int) := hl.idxk
    have ht0 : pd.tag ≠ 0 := fun e => by
      have h9 := (hw.text _ pd h1).2.2 e
      rw [h9] at h4
      cases h4
    have hkl := lengthOf_kids hw h1 ht0
    obtain ⟨l1, l2⟩ := unlink_len h1 h2 h5 ht0 (tag_ne hw h1) h4
    have hil := List.idxOf_lt_length_of_mem h4
    have hgot : ∀ n, (∃ nd, T.get? n = some nd) → ∃ nd, (T.unlink p' k' pd kd).get? n = some nd := by
      intro n hn
      obtain ⟨nd, hn⟩ := hn
      refine got_of_len ?_
      by_cases e : n = (p' : Int)
      · rw [e, l2, hkl]; omega
      · rw [l1 n e]; exact (len_small hS.good hn).2.2.1
    obtain ⟨na, nb, hr⟩ := (cmpOk_iff _ _ _ _ _).1 hok
    have key : ∀ (n x : Int), T.may n x = true → newP 0 (remP (T.unlink p' k' pd kd) k' (T.up k') (T.idx k')) n x = goneP (T.unlink p' k' pd kd) k' p' (pd.kids.idxOf (k' : Int)) n x := by
      intro n x hm
      have e3 := hl.win_new hw' (hgot _ ⟨kd, hgk⟩) (hgot _ (may_got' hm))
      show remP (T.unlink p' k' pd kd) k' (T.up k') (T.idx k') n x = _
      rw [hup, hix]
      unfold remP goneP
      by_cases hwn : (T.unlink p' k' pd kd).win n k' = true
      · rw [if_pos hwn, if_pos (e3.1 hwn)]
      · rw [if_neg hwn, if_neg (fun e => hwn (e3.2 e))]
    rw [key an aat na] at ma ⊢
    rw [key bn bat nb] at mb ⊢
    have c1 := hl.cmp_back hw' hw aat bat hr
    have c2 := hl.cmp_back hw' hw bat aat hr.symm
    exact ord_of hok ma mb c1.1 c1.2 c2.2 rfl
theorem setAt_get {T : Tr} {i : Nat} {nd nd' : Nd} (hi : T.nodes[i]? = some (some nd)) (x : Int) : (T.setAt i nd').get? x = if x = i then some nd' else T.get? x := by
  by_cases h0 : x < 0
  · rw [get_neg _ h0, get_neg _ h0, if_neg (by omega)]
  · obtain ⟨j, rfl⟩ := Int.eq_ofNat_of_zero_le (show 0 ≤ x by omega)
    rw [get_nat, get_nat]
    show ((T.nodes.set i (some nd'))[j]?).join = _
    by_cases e : j = i
    · subst e
      rw [List.getElem?_set_self (List.getElem?_eq_some_iff.1 hi).1, if_pos rfl]; rfl
    · rw [List.getElem?_set_ne (Ne.symm e), if_neg (fun h => e (by omega))]
theorem setText_same {T : Tr} {i : Nat} {nd : Nd} (hi : T.nodes[i]? = some (some nd)) (s : ByteArray) : (∀ x, (T.setAt i { nd with text := s }).up x = T.up x) ∧ (∀ x, (T.setAt i { nd with text := s }).idx x = T.idx x) ∧ ∀ x, (T.setAt i { nd with text := s }).kidsOf x = T.kidsOf x := by
  have hg := Tr.get_of hi
  have key : ∀ x, (T.setAt i { nd with text := s }).get? x = (T.get? x).map fun y => if x = i then { nd with text := s } else y := by
    intro x
    rw [setAt_get hi]
    by_cases e : x = i
    · subst e; rw [if_pos rfl, hg]; simp
    · rw [if_neg e]
      cases T.get? x with
      | none => rfl
      | some y => simp [e]
  have hk : ∀ x, (T.setAt i { nd with text := s }).kidsOf x = T.kidsOf x := by
    intro x
    unfold Tr.kidsOf
    rw [key x]
    by_cases e : x = i
    · subst e; rw [hg]; simp
    · cases T.get? x with
      | none => rfl
      | some y => simp [e]
  have hu : ∀ x, (T.setAt i { nd with text := s }).up x = T.up x := by
    intro x
    unfold Tr.up
    rw [key x]
    by_cases e : x = i
    · subst e; rw [hg]; simp
    · cases T.get? x with
      | none => rfl
      | some y => simp [e]
  refine ⟨hu, fun x => ?_, hk⟩
  have hu2 := hu x
  unfold Tr.up at hu2
  unfold Tr.idx
  rw [key x] at hu2 ⊢
  cases hx : T.get? x with
  | none => rfl
  | some y =>
    rw [hx] at hu2
    have hp : (if x = (i : Int) then { nd with text := s } else y).parent = y.parent := hu2
    show (match (T.setAt i { nd with text := s }).get? (if x = (i : Int) then { nd with text := s } else y).parent with | none => -1 | some pd => posOf pd.kids x) = (match T.get? y.parent with | none => -1 | some pd => posOf pd.kids x)
    rw [hp]
    have hk2 := hk y.parent
    unfold Tr.kidsOf at hk2
    rw [key y.parent] at hk2 ⊢
    cases hy : T.get? y.parent with
    | none => rfl
    | some z =>
      rw [hy] at hk2
      show posOf (if y.parent = (i : Int) then { nd with text := s } else z).kids x = posOf z.kids x
      have hk3 : (if y.parent = (i : Int) then { nd with text := s } else z).kids = z.kids := hk2
      rw [hk3]
theorem sizes_congr {f g : Int → PN} : ∀ l : List Int, (∀ k ∈ l, (f k).size = (g k).size) → PN.sizes (l.map f) = PN.sizes (l.map g) := by
  intro l
  induction l with
  | nil => intro _; rfl
  | cons k l ih =>
    intro h
    show (f k).size + PN.sizes (l.map f) = (g k).size + PN.sizes (l.map g)
    rw [h k (by simp), ih fun x hx => h x (by simp [hx])]
theorem setText_size {T : Tr} {i : Nat} {nd : Nd} (hi : T.nodes[i]? = some (some nd)) (s : ByteArray) : ∀ (f : Nat) (x : Int), ((T.setAt i { nd with text := s }).pln f x).size = (T.pln f x).size := by
  intro f
  induction f with
  | zero => intro x; rfl
  | succ f ih =>
    intro x
    show (match (T.setAt i { nd with text := s }).get? x with | none => noPN | some nd => PN.mk nd.tag nd.attrs nd.text (nd.kids.map ((T.setAt i _).pln f))).size = (match T.get? x with | none => noPN | some nd => PN.mk nd.tag nd.attrs nd.text (nd.kids.map (T.pln f))).size
    rw [setAt_get hi]
    by_cases e : x = i
    · subst e
      rw [if_pos rfl, Tr.get_of hi]
      show PN.sizes (nd.kids.map _) + 1 = PN.sizes (nd.kids.map _) + 1
      rw [sizes_congr nd.kids fun k _ => ih k]
    · rw [if_neg e]
      cases T.get? x with
      | none => rfl
      | some y =>
        show PN.sizes (y.kids.map _) + 1 = PN.sizes (y.kids.map _) + 1
        rw [sizes_congr y.kids fun k _ => ih k]
theorem ord_rep {id' : Int} (hS : StOk T H) (hS' : StOk T' H') {er : Int} (ht : (er ≠ 0 ∧ T' = T ∧ H' = H) ∨ (er = 0 ∧ ∃ (i q m : Nat) (nd : Nd) (s' : ByteArray), id' = i ∧ T.nodes[i]? = some (some nd) ∧ nd.tag = 0 ∧ T' = T.setAt i { nd with text := s' } ∧ ∃ k : Nat, H' = H.map (moved (repP i q k m)))) {i j : Nat} {an aat bn bat : Int} (hi : H[i]? = some ⟨an, aat, 0⟩) (hj : H[j]? = some ⟨bn, bat, 0⟩) (hok : T.cmpOk an aat bn bat = true) :
    ∃ p q : Int × Int, H'[i]? = some ⟨p.1, p.2, 0⟩ ∧ H'[j]? = some ⟨q.1, q.2, 0⟩ ∧ OrdKept T T' an aat bn bat p q ∧ (T'.plain 0).size = (T.plain 0).size := by
  rcases ht with ⟨_, rfl, rfl⟩ | ⟨_, x, q, m, nd, s', _, h1, h2, rfl, c, rfl⟩
  · exact ⟨(an, aat), (bn, bat), hi, hj, ord_same hok, rfl⟩
  · have ka : (H.map (moved (repP x q c m)))[i]? = some ⟨(repP x q c m an aat).1, (repP x q c m an aat).2, 0⟩ := by rw [List.getElem?_map, hi]; rfl
    have kb : (H.map (moved (repP x q c m)))[j]? = some ⟨(repP x q c m bn bat).1, (repP x q c m bn bat).2, 0⟩ := by rw [List.getElem?_map, hj]; rfl
    have ma := held_may hS' ka
    have mb := held_may hS' kb
    obtain ⟨⟨d, hw⟩, _⟩ := hS.good
    obtain ⟨⟨d', hw'⟩, _⟩ := hS'.good
    obtain ⟨hu, hx, hk⟩ := setText_same h1 s'
    obtain ⟨_, _, hr⟩ := (cmpOk_iff _ _ _ _ _).1 hok
    have hkn : T.kidsOf (x : Int) = [] := by
      unfold Tr.kidsOf
      rw [Tr.get_of h1]
      exact (hw.text x nd h1).2.2 h2
    have c1 := cmp_text hw hw' hu hx hkn (q := q) (c := c) (mm := m) (by omega) (by omega) aat bat hr
    have c2 := cmp_text hw hw' hu hx hkn (q := q) (c := c) (mm := m) (by omega) (by omega) bat aat hr.symm
    exact ⟨repP x q c m an aat, repP x q c m bn bat, ka, kb, ord_of hok ma mb c1.1 c1.2 c2.2 rfl, setText_size h1 s' 50 0⟩
end
end Go.Proofs.YthgnbbbdcebjhaaGreat
namespace Go.Proofs.YthgnbbbdcebjhaaGreat
open Go Go.RowKit Go.BigFrame Go.WideShapes Go.ChangeShapes
theorem ClAt.ext {w w' : World} {A : Addr} {c : Cl} (h : ClAt w A c) (x : Ext w w') : ClAt w' A c := by
  obtain ⟨av, c6, c7, c8, c9, q0, q1, q2, q3, q4, q5, q6, q7, q8, q9, h1, h2⟩ := h
  have X := x.cells
  exact ⟨av, c6, c7, c8, c9, X _ _ q0, X _ _ q1, X _ _ q2, X _ _ q3, X _ _ q4, X _ _ q5, X _ _ q6, X _ _ q7, X _ _ q8, X _ _ q9, h1.ext x, h2.cells fun q y h => x.cells q y h⟩
theorem CallsRd.ext {w w' : World} {l : List Cl} {v : Value} (h : CallsRd w l v) (x : Ext w w') : CallsRd w' l v := by
  obtain ⟨ao, cap, h1, h2, h3, h4, h5⟩ := h
  exact ⟨ao, cap, h1, h2, h3, h4, fun a ha k c hk => (h5 a ha k c hk).ext x⟩
theorem callsRd_of_row11 {w0 w : World} {l : List Cl} {cell : Nat → List Value} (hcell : ∀ j c, l[j]? = some c → ClVals w0 c (cell j)) (x : Ext w0 w) {p : Nat → Prop} {v : Value} (hr : RowP w p 39 10 v l.length (clX cell l.length)) : CallsRd w l v := by
  have h10 : ∀ j, j < l.length → (cell j).length = 10 := fun j hj => by
    obtain ⟨c, hc⟩ : ∃ c, l[j]? = some c := ⟨_, List.getElem?_eq_getElem hj⟩
    obtain ⟨av, c6, c7, c8, c9, e, _⟩ := hcell j c hc
    rw [e]; rfl
  rcases hr.2 with ⟨h0, a, rfl⟩ | ⟨g, cap, cur, rfl, q2, q3, q4, q5, q6, q7⟩
  · exact ⟨a, 0, by rw [h0], by omega, by unfold maxLen; omega, fun _ => h0, fun ad _ j c hj => by have := (List.getElem?_eq_some_iff.1 hj).1; omega⟩
  · refine ⟨_, cap, rfl, by omega, q5, (fun e => by cases e), fun ad e j c hj => ?_⟩
    cases e
    have hjk := (List.getElem?_eq_some_iff.1 hj).1
    refine (hcell j c hj).at x q3 fun i hi => ?_
    rw [← clX_get h10 l.length (Nat.le_refl _) j i hjk hi, ← q7, List.getElem?_take_of_lt (by omega)]
    simp
theorem infoCall11 : (Tryz.prog.info? 39).map (fun i => (i.zero, i.size, i.bytes)) = some (some (.agg #[.int .i64 0, .int .i64 0, .int .i64 0, .int .i64 0, .string ⟨#[]⟩, .slice none 0 0, .int .i64 0, .slice none 0 0, .string ⟨#[]⟩, .slice none 0 0]), 10, 144) := by kernel_rfl
structure CellsOf (w : World) (l : List Cl) (v : Value) (cell : Nat → List Value) : Prop where
  vals : ∀ j c, l[j]? = some c → ClVals w c (cell j)
  rd : RowRd w 10 v l.length (clX cell l.length)
def NilOk (v : Value) : Prop := ∀ n cap, v = .slice none n cap → cap = 0
theorem CallsRd.cellsOf {w : World} {l : List Cl} {v : Value} (hl : CallsRd w l v) (hnil : NilOk v) : ∃ cell, CellsOf w l v cell := by
  obtain ⟨ao, cap, rfl, hc1, hc2, hno, hcl⟩ := hl
  have hsk : ∀ j, ∃ cs, ∀ c, l[j]? = some c → ClVals w c cs ∧ ∀ a, ao = some a → ∀ i v, cs[i]? = some v → w.cell? ((a.add (j * 10)).add i) = some v := by
    intro j
    cases hj : l[j]? with
    | none => exact ⟨[], fun c hc => by cases hc⟩
    | some c =>
      cases ao with
      | none => have := hno rfl; have := (List.getElem?_eq_some_iff.1 hj).1; omega
      | some a =>
        obtain ⟨av, c6, c7, c8, c9, q0, q1, q2, q3, q4, q5, q6, q7, q8, q9, hra, hrn⟩ := hcl a rfl j c hj
        refine ⟨[.int .i64 c.what, .int .i64 c.a, .int .i64 c.b, .int .i64 c.c, .string c.s, av, c6, c7, c8, c9], fun c' hc' => ?_⟩
        cases hc'
        refine ⟨⟨av, c6, c7, c8, c9, rfl, hra, hrn⟩, fun a' ha' i v hv => ?_⟩
        cases ha'
        have hi : i < 10 := (List.getElem?_eq_some_iff.1 hv).1
        rcases i with _ | _ | _ | _ | _ | _ | _ | _ | _ | _ | i
        · cases hv; rw [addr_add0]; exact q0
        · cases hv; exact q1
        · cases hv; exact q2
        · cases hv; exact q3
        · cases hv; exact q4
        · cases hv; exact q5
        · cases hv; exact q6
        · cases hv; exact q7
        · cases hv; exact q8
        · cases hv; exact q9
        · omega
  obtain ⟨cell, hcell⟩ := Classical.skolem.1 hsk
  have h10 : ∀ j, j < l.length → (cell j).length = 10 := fun j hj => by
    obtain ⟨c, hc⟩ : ∃ c, l[j]? = some c := ⟨_, List.getElem?_eq_getElem hj⟩
    obtain ⟨av, c6, c7, c8, c9, e, _⟩ := (hcell j c hc).1
    rw [e]; rfl
  have hlen := clX_len h10 l.length (Nat.le_refl _)
  refine ⟨cell, fun j c hc => (hcell j c hc).1, hlen, ao, cap, rfl, hc1, fun h => ⟨hno h, ?_⟩, fun a ha j u hu => ?_⟩
  · subst h; exact hnil _ _ rfl
  · have hjl := (List.getElem?_eq_some_iff.1 hu).1
    rw [hlen] at hjl
    have hd : j = (j / 10) * 10 + j % 10 := by omega
    have hdl : j / 10 < l.length := by omega
    obtain ⟨c, hc⟩ : ∃ c, l[j / 10]? = some c := ⟨_, List.getElem?_eq_getElem hdl⟩
    rw [hd, clX_get h10 l.length (Nat.le_refl _) (j / 10) (j % 10) hdl (by omega)] at hu
    have h9 := (hcell (j / 10) c hc).2 a ha (j % 10) u hu
    rw [Go.Deep.add_add] at h9
    rw [hd]
    exact h9
theorem ten_one {cs : List Value} {c : Cl} {w : World} (h : ClVals w c cs) : cs.length = 10 ∧ ∀ u ∈ cs, u.oneCell' = true := by
  obtain ⟨av, c6, c7, c8, c9, rfl, hra, hrn⟩ := h
  obtain ⟨aa, acap, rfl, _⟩ := hra.len_of
  obtain ⟨n0, n1, en, hna, hnk⟩ := hrn.open
  obtain ⟨naa, nac, en0, _⟩ := hna.len_of
  obtain ⟨nka, nkc, en1, _⟩ := hnk
  subst en0 en1
  cases en
  refine ⟨rfl, fun u hu => ?_⟩
  simp only [List.mem_cons, List.not_mem_nil, or_false] at hu
  rcases hu with rfl | rfl | rfl | rfl | rfl | rfl | rfl | rfl | rfl | rfl <;> rfl
theorem clX_one {w : World} {l : List Cl} {cell : Nat → List Value} (h : ∀ j c, l[j]? = some c → ClVals w c (cell j)) : ∀ k, k ≤ l.length → ∀ u ∈ clX cell k, u.oneCell' = true := by
  intro k
  induction k with
  | zero => intro _ u hu; cases hu
  | succ k ih =>
    intro hk u hu
    rcases List.mem_append.1 (show u ∈ clX cell k ++ cell k from hu) with hu | hu
    · exact ih (by omega) u hu
    · obtain ⟨c, hc⟩ : ∃ c, l[k]? = some c := ⟨_, List.getElem?_eq_getElem (show k < l.length by omega)⟩
      exact (ten_one (h k c hc)).2 u hu
theorem copy_calls {w : World} {b : Nat} {v : Value} {n : Nat} {xs : List Value} (h : RowRd w 10 v n xs) (hn : n * 144 ≤ 140737488351232) (h1 : ∀ u ∈ xs, u.oneCell' = true) :
    ∃ v' w', (Builtin.append_ #[22, 22] 22 #[.slice (some ⟨b, 0, none⟩) 0 0, v]).run Tryz.prog w = .ok v' w' ∧ RowP w' (fun g => w.heap.size ≤ g) 39 10 v' n xs ∧ Ext w w' := by
  obtain ⟨hl, ao, cap, rfl, hcap, hnone, hc⟩ := h
  rcases Nat.eq_zero_or_pos n with rfl | hpos
  · obtain rfl : xs = [] := List.eq_nil_of_length_eq_zero (by simpa using hl)
    refine ⟨.slice (some ⟨b, 0, none⟩) 0 0, w, ?_, ⟨rfl, .inl ⟨rfl, _, rfl⟩⟩, Ext.refl _⟩
    cases ao with
    | none => obtain ⟨_, rfl⟩ := hnone rfl; go_simp
    | some a => go_simp
  · cases ao with
    | none => exact absurd (hnone rfl).1 (by omega)
    | some a =>
      obtain ⟨i0, hi, hz0, hz1, hz2⟩ := info_parts infoCall11
      obtain ⟨v', w', h2, h3, h4⟩ := run_append_arg_grows (P := Tryz.prog) w 22 22 39 i0 _ 10 _ Tryz.underlying22 hi hz0 hz1 hz2 (by kernel_rfl) (by decide) ⟨b, 0, none⟩ 0 0 [] (by simp) (by simp) a n cap xs hl (hc a rfl) (by omega) (by unfold maxLen; omega) (by omega)
      refine ⟨v', w', h2, (by have := RowP.of_owns h3; simpa using this : RowIn w' w.heap.size 39 10 v' n xs), (Ext.refl w).grown h4 (fun k hk => by cases hk)⟩
theorem push_call {w0 w : World} {l : List Cl} {cell : Nat → List Value} (hv : ∀ j c, l[j]? = some c → ClVals w0 c (cell j)) {c : Cl} {cs : Array Value} (hc : ClVals w0 c cs.toList) (x : Ext w0 w) {v1 : Value} (h1 : RowP w (fun g => w0.heap.size ≤ g) 39 10 v1 l.length (clX cell l.length)) {b : Nat} (hb : w.heap[b]? = some (.cells cs 39 (0, 0))) (hn : l.length * 144 ≤ 140737488351232) :
    ∃ v2 w2, (Builtin.append_ #[22, 22] 22 #[v1, .slice (some ⟨b, 0, none⟩) 1 1]).run Tryz.prog w = .ok v2 w2 ∧ CallsRd w2 (l ++ [c]) v2 ∧ Ext w0 w2 := by
  obtain ⟨i0, hi, hz0, hz1, hz2⟩ := info_parts infoCall11
  obtain ⟨t1, t2⟩ := ten_one hc
  obtain ⟨v2, w2, row, hrun, hr, hg, hrow⟩ := run_append_row (P := Tryz.prog) w 22 22 39 i0 _ 10 144 Tryz.underlying22 hi hz0 hz1 hz2 (by kernel_rfl) (by decide)
    h1 ⟨b, 0, none⟩ 1 1 cs.toList t1 (by
      intro j u hj
      rw [Addr.add_lit, Nat.zero_add]
      refine cellOf hb ?_
      rw [← Array.getElem?_toList]; exact hj) t2 (by decide) (by unfold maxLen; omega) (by omega)
  have x2 : Ext w0 w2 := x.grown hg fun k hk => hrow k hk
  refine ⟨v2, w2, hrun, ?_, x2⟩
  obtain ⟨cell', hcell'⟩ : ∃ cell' : Nat → List Value, cell' = fun j => if j < l.length then cell j else cs.toList := ⟨_, rfl⟩
  have he : ∀ k, k ≤ l.length → clX cell' k = clX cell k := by
    intro k
    induction k with
    | zero => intro _; rfl
    | succ k ih =>
      intro hk
      show clX cell' k ++ cell' k = clX cell k ++ cell k
      rw [ih (by omega), hcell']
      dsimp only
      rw [if_pos (by omega)]
  have hlast : cell' l.length = cs.toList := by rw [hcell']; dsimp only; rw [if_neg (by omega)]
  have hX : clX cell' (l.length + 1) = clX cell l.length ++ cs.toList := by
    show clX cell' l.length ++ cell' l.length = _
    rw [he l.length (Nat.le_refl _), hlast]
  have hvals : ∀ j c', (l ++ [c])[j]? = some c' → ClVals w0 c' (cell' j) := by
    intro j c' hj
    by_cases e : j < l.length
    · rw [List.getElem?_append_left e] at hj
      rw [hcell']; dsimp only; rw [if_pos e]
      exact hv j c' hj
    · have hjl := (List.getElem?_eq_some_iff.1 hj).1
      have e2 : j = l.length := by simp at hjl; omega
      subst e2
      rw [List.getElem?_append_right (Nat.le_refl _), Nat.sub_self] at hj
      cases hj
      rw [hlast]; exact hc
  have hl1 : (l ++ [c]).length = l.length + 1 := by simp
  exact callsRd_of_row11 (w0 := w0) (l := l ++ [c]) (cell := cell') hvals x2 (p := fun g => w0.heap.size ≤ g ∨ w.heap.size ≤ g) (v := v2) (by rw [hl1, hX]; exact hr)
theorem keep_calls11n {H : Type} {enc : TypeId × Value → H} {w : World} {b0 base : Nat} {spare : Nat → Bool} {held : Bool} {v : Value} {d : DataW H} {p : List MemPlace}
    (hv : Value.okWide Tryz.prog w .any b0 22 v) (h : DataW.Trod enc Tryz.prog w base spare held 22 v d p) : ∃ l, CallsRd w l v ∧ NilOk v := by
  obtain ⟨l, hl⟩ := keep_calls11 hv h
  refine ⟨l, hl, fun n cap e => ?_⟩
  obtain ⟨fuel, h⟩ := h
  subst e
  rcases slice_elems Tryz.underlying22 (cs := [.slice none n cap]) h with e | ⟨a, len, cap, n, _, e, _⟩
  · cases e; rfl
  · cases e
theorem keep_one11 {H : Type} {enc : TypeId × Value → H} {w : World} {b0 base : Nat} {spare : Nat → Bool} {held : Bool} {v : Value} {d : DataW H} {p : List MemPlace}
    (hv : Value.okWide Tryz.prog w .any b0 39 v) (h : DataW.Trod enc Tryz.prog w base spare held 39 v d p) : ∃ c, ∃ cs : Array Value, v = .agg cs ∧ ClVals w c cs.toList := by
  obtain ⟨fuel, h⟩ := h
  have hC : Tryz.prog.cellsOf 39 = 10 := by kernel_rfl
  obtain ⟨c, av, c6, c7, c8, c9, e, h1, h2⟩ := read_call11 h
  obtain ⟨cs, rfl⟩ : ∃ cs, v = .agg cs := by
    cases v with
    | agg cs => exact ⟨cs, rfl⟩
    | _ => exact absurd (congrArg List.length e) (by simp [Value.cells])
  exact ⟨c, cs, rfl, av, c6, c7, c8, c9, e, h1, h2⟩
end Go.Proofs.YthgnbbbdcebjhaaGreat
namespace Go.Proofs.YthgnbbbdcebjhaaGreat
open Go Go.RowKit Go.BigFrame
theorem cmp_three (T : Tr) (a b c d : Int) : -1 ≤ T.cmp a b c d ∧ T.cmp a b c d ≤ 1 := by
  unfold Tr.cmp
  split
  · exact cmpL_one _ _
  · omega
theorem name_act {P : Program} {ops : Array Oper} {Q : Exit → Act → World → Prop} {md : Region.Mode} {S : World → Prop} {n f : Nat} {L : Array Bool} {a : Act} {w : World} (h : ∀ A, A = a → wpE P md ops Q S n f L A w) : wpE P md ops Q S n f L a w := h a rfl
theorem CallsRd.len_of {w : World} {l : List Cl} {v : Value} (h : CallsRd w l v) : ∃ a k, v = .slice a l.length k ∧ l.length ≤ k := by
  obtain ⟨ao, cap, h1, h2, _⟩ := h
  exact ⟨ao, cap, h1, h2⟩
theorem liveOrder_walk (cap : Int) (hc : (Lit.int .i64 cap).wf = true) (deep : Int) (hd : (Lit.int .i64 deep).wf = true) {w : World} (v : Value) (l : List Cl) (hl : CallsRd w l v ∧ NilOk v ∧ l.length * 144 ≤ 140737488351232) (an : Int) (hw1 : (Lit.int .i64 an).wf = true) (aat : Int) (hw2 : (Lit.int .i64 aat).wf = true) (bn : Int) (hw3 : (Lit.int .i64 bn).wf = true) (bat : Int) (hw4 : (Lit.int .i64 bat).wf = true)
    (vo : Value) (c : Cl) (hone : ∃ cs : Array Value, vo = .agg cs ∧ ClVals w c cs.toList) :
    Calls Tryz.prog 5 #[.int .i64 cap, .int .i64 deep, v, .agg #[.int .i64 an, .int .i64 aat], .agg #[.int .i64 bn, .int .i64 bat], vo] w (RBool true w) := by
  clear hw1 hw2 hw3 hw4
  obtain ⟨cs, rfl, hcv⟩ := hone
  have hcv2 := hcv
  obtain ⟨av, c6, c7, c8, c9, ecs, hra, hrn⟩ := hcv2
  obtain ⟨aa, acap, rfl, _⟩ := hra.len_of
  obtain ⟨n0, n1, en, hna, hnk⟩ := hrn.open
  obtain ⟨naa, nac, en0, _⟩ := hna.len_of
  obtain ⟨nka, nkc, en1, _⟩ := hnk
  subst en0 en1
  cases en
  obtain rfl : cs = #[.int .i64 c.what, .int .i64 c.a, .int .i64 c.b, .int .i64 c.c, .string c.s, .slice aa c.attrs.length acap, .int .i64 c.n.tag, .slice naa c.n.attrs.length nac, .string c.n.text, .slice nka c.n.kids.length nkc] := by
    cases cs
    simpa using ecs
  clear ecs hra hrn hna
  have xa := (Ext.refl w).alloc (.cells #[.int .i64 an, .int .i64 aat] 43)
  have ba := heap_alloc_new w (.cells #[.int .i64 an, .int .i64 aat] 43)
  obtain ⟨wa, hwa⟩ : ∃ W : World, W = w.alloc (.cells #[.int .i64 an, .int .i64 aat] 43) := ⟨_, rfl⟩
  have sa : wa.heap.size = w.heap.size + 1 := by rw [hwa]; simp
  rw [← hwa] at xa ba
  have xb := (Ext.refl wa).alloc (.cells #[.int .i64 bn, .int .i64 bat] 43)
  have bb := heap_alloc_new wa (.cells #[.int .i64 bn, .int .i64 bat] 43)
  obtain ⟨wb, hwb⟩ : ∃ W : World, W = wa.alloc (.cells #[.int .i64 bn, .int .i64 bat] 43) := ⟨_, rfl⟩
  have sb : wb.heap.size = wa.heap.size + 1 := by rw [hwb]; simp
  rw [← hwb] at xb bb
  have xo := (Ext.refl wb).alloc (.cells #[.int .i64 c.what, .int .i64 c.a, .int .i64 c.b, .int .i64 c.c, .string c.s, .slice aa c.attrs.length acap, .int .i64 c.n.tag, .slice naa c.n.attrs.length nac, .string c.n.text, .slice nka c.n.kids.length nkc] 39)
  have bo := heap_alloc_new wb (.cells #[.int .i64 c.what, .int .i64 c.a, .int .i64 c.b, .int .i64 c.c, .string c.s, .slice aa c.attrs.length acap, .int .i64 c.n.tag, .slice naa c.n.attrs.length nac, .string c.n.text, .slice nka c.n.kids.length nkc] 39)
  obtain ⟨wo, hwo⟩ : ∃ W : World, W = wb.alloc (.cells #[.int .i64 c.what, .int .i64 c.a, .int .i64 c.b, .int .i64 c.c, .string c.s, .slice aa c.attrs.length acap, .int .i64 c.n.tag, .slice naa c.n.attrs.length nac, .string c.n.text, .slice nka c.n.kids.length nkc] 39) := ⟨_, rfl⟩
  rw [← hwo] at xo bo
  obtain ⟨BA, hBA⟩ : ∃ b, w.heap.size = b := ⟨_, rfl⟩
  have hbb : wa.heap.size = BA + 1 := by omega
  have hbo : wb.heap.size = BA + 1 + 1 := by omega
  rw [hBA] at ba
  rw [hbb] at bb
  rw [hbo] at bo
  have HBA := qh ((xb.trans xo).block ba)
  have HBB := qh (xo.block bb)
  have HBO := qh bo
  have XO := qh ((xa.trans xb).trans xo)
  have HWA := qh hwa
  have HWB := qh hwb
  have HWO := qh hwo
  have HSA := qh hBA
  have HCV := qh hcv
  have HLR := qh hl.1
  have HBIG := qh hl.2.2
  obtain ⟨m1, m2⟩ := tmod14 c.what
  have e1 : IntKind.i64.wrap (c.what.tmod 14) = c.what.tmod 14 := IntWalk.i64_in _ (by omega)
  have e2 : IntKind.i64.wrap (c.what.tmod 14 + 14) = c.what.tmod 14 + 14 := IntWalk.i64_in _ (by omega)
  obtain ⟨wv, hm⟩ : ∃ m, (c.what.tmod 14 + 14).tmod 14 = m := ⟨_, rfl⟩
  have e3 : IntKind.i64.wrap ((c.what.tmod 14 + 14).tmod 14) = wv := by rw [hm]; exact IntWalk.i64_in _ (by have := Int.tmod_lt_of_pos (c.what.tmod 14 + 14) (show (0 : Int) < 14 by decide); have := Int.lt_tmod_of_pos (c.what.tmod 14 + 14) (show (0 : Int) < 14 by decide); omega)
  have HM0 := qh hm
  have HMM : Hid ((c.what.tmod 14 + 14) % 14 = wv) := qh (by rw [← hm, Int.tmod_eq_emod_of_nonneg (a := c.what.tmod 14 + 14) (by omega)])
  rw [Int.tmod_eq_emod_of_nonneg (by omega), Int.add_emod_right] at hm
  obtain ⟨lao, lcap, elv, hlc⟩ := hl.1.len_of
  subst elv
  obtain ⟨cell, hcell⟩ := hl.1.cellsOf hl.2.1
  have HCELL := qh hcell
  clear hl hcv hc hd xa ba hwa sa xb bb hwb sb xo bo hwo hBA hbb hbo hcell
  go_enter Tryz.func5, Tryz.ntmps5
  go_upto_region 1 with fail
  rw [HSA.out, ← HWA.out, ← HWB.out, ← HWO.out]
  have u0 := cellOf HBO.out (i := 0) (v := .int .i64 c.what) rfl
  go_upto_region 2 with fail
  rw [HMM.out]
  clear u0 e1 e2 e3 hm m1 m2
  go_cut [53] (fun v wx => ∃ r : Bool, v = .bool r ∧ (r = false → Light (l ++ [c]) ∧ (wv = 3 ∨ wv = 5 ∨ wv = 13)) ∧ Ext wo wx)
  case first =>
    refine wp_region_E (S := fun w' => Ext wo w') (n := 19) (by kernel_rfl) ?_
    have hS : Ext wo wo.drew := (Ext.refl wo).drew
    obtain ⟨wz, hwz⟩ : ∃ W : World, W = wo.drew := ⟨_, rfl⟩
    rw [← hwz] at hS ⊢
    clear hwz
    show wpE _ _ _ _ _ 19 19 (Array.replicate 19 false) _ _
    have u0 := cellOf HBO.out (i := 0) (v := .int .i64 c.what) rfl
    have u1 := cellOf HBO.out (i := 1) (v := .int .i64 c.a) rfl
    have u2 := cellOf HBO.out (i := 2) (v := .int .i64 c.b) rfl
    have u3 := cellOf HBO.out (i := 3) (v := .int .i64 c.c) rfl
    have u4 := cellOf HBO.out (i := 4) (v := .string c.s) rfl
    have u5 := cellOf HBO.out (i := 5) (v := .slice aa c.attrs.length acap) rfl
    have u6 := cellOf HBO.out (i := 6) (v := .int .i64 c.n.tag) rfl
    have u7 := cellOf HBO.out (i := 7) (v := .slice naa c.n.attrs.length nac) rfl
    have u8 := cellOf HBO.out (i := 8) (v := .string c.n.text) rfl
    have u9 := cellOf HBO.out (i := 9) (v := .slice nka c.n.kids.length nkc) rfl
    refine wpE_tk 1 36 (.slice lao l.length lcap) rfl (.inl ⟨by rfl, fun w' hSw => ?_⟩) hS ?_
    · (have y0 := hSw.cell u0; have y1 := hSw.cell u1; have y2 := hSw.cell u2; have y3 := hSw.cell u3; have y4 := hSw.cell u4; have y5 := hSw.cell u5; have y6 := hSw.cell u6; have y7 := hSw.cell u7; have y8 := hSw.cell u8; have y9 := hSw.cell u9; clear hS u0 u1 u2 u3 u4 u5 u6 u7 u8 u9; go_simp)
    try simp only [Act.put, zA, zB, zC]
    refine wpE_tk 3 38 (.agg #[.int .i64 c.what, .int .i64 c.a, .int .i64 c.b, .int .i64 c.c, .string c.s, .slice aa c.attrs.length acap, .int .i64 c.n.tag, .slice naa c.n.attrs.length nac, .string c.n.text, .slice nka c.n.kids.length nkc]) rfl (.inl ⟨by rfl, fun w' hSw => ?_⟩) hS ?_
    · (have y0 := hSw.cell u0; have y1 := hSw.cell u1; have y2 := hSw.cell u2; have y3 := hSw.cell u3; have y4 := hSw.cell u4; have y5 := hSw.cell u5; have y6 := hSw.cell u6; have y7 := hSw.cell u7; have y8 := hSw.cell u8; have y9 := hSw.cell u9; clear hS u0 u1 u2 u3 u4 u5 u6 u7 u8 u9; go_simp)
    try simp only [Act.put, zA, zB, zC]
    clear u0 u1 u2 u3 u4 u5 u6 u7 u8 u9
    refine name_act fun A hA => with_wpE fun W hto hof => ?_
    have fin : ∀ (w1 : World) (b0 : Nat) (v1 : Value) (b4 : Nat), Ext wo w1 → RowP w1 (fun g => wo.heap.size ≤ g) 39 10 v1 l.length (clX cell l.length) → w1.heap[b4]? = some (.cells #[.int .i64 c.what, .int .i64 c.a, .int .i64 c.b, .int .i64 c.c, .string c.s, .slice aa c.attrs.length acap, .int .i64 c.n.tag, .slice naa c.n.attrs.length nac, .string c.n.text, .slice nka c.n.kids.length nkc] 39 (0, 0)) → W 14 #[true, true, true, true, true, false, false, false, false, false, false, false, false, false, false, false, false, false, false] (((A.put (some 35) (.slice (some ⟨b0, 0, none⟩) 0 0)).put (some 37) v1).put (some 39) (.slice (some ⟨b4, 0, none⟩) 1 1)) w1 := by
      intro w1 b0 v1 b4 hx hr hb
      rw [hA]
      simp only [Act.put, zA, zB, zC]
      refine hto _ _ _ _ ?_
      obtain ⟨v2, w2, hrun, hcr, hx2⟩ := push_call (w0 := wo) (fun j c hc => (by obtain ⟨av, c6, c7, c8, c9, e, k1, k2⟩ := HCELL.out.vals j c hc; exact ⟨av, c6, c7, c8, c9, e, k1.ext XO.out, k2.cells fun q y h => XO.out.cells q y h⟩)) (c := c) (cs := #[.int .i64 c.what, .int .i64 c.a, .int .i64 c.b, .int .i64 c.c, .string c.s, .slice aa c.attrs.length acap, .int .i64 c.n.tag, .slice naa c.n.attrs.length nac, .string c.n.text, .slice nka c.n.kids.length nkc]) (by obtain ⟨av, c6, c7, c8, c9, e, k1, k2⟩ := HCV.out; exact ⟨av, c6, c7, c8, c9, e, k1.ext XO.out, k2.cells fun q y h => XO.out.cells q y h⟩) hx hr hb HBIG.out
      have HRUN := qh hrun
      have HCR := qh hcr
      have HX2 := qh hx2
      clear hx hr hb hrun hcr hx2
      refine wpE_on 5 (some 40) rfl (fun K hK => ?_)
      refine step_append_run (by rfl) _ _ 22 (by rfl) v1 (.slice (some ⟨b4, 0, none⟩) 1 1) (by rfl) (by rfl) v2 w2 HRUN.out ?_
      refine hK.out _ _ (.inr HX2.out) ?_
      clear hK K
      try simp only [Act.put, zA, zB, zC]
      refine wpE_on 6 (some 41) rfl (fun K hK => ?_)
      go_simp
      go_at_call 6
      refine (Heavy11 HCR.out).mono ?_
      rintro e w3 ⟨hb, rfl, hx3, hli⟩
      have HX3 := qh (HX2.out.trans hx3)
      have HLI := qh hli
      clear hx3 hli
      refine hK.out _ _ (.inr HX3.out) ?_
      clear hK K
      try simp only [Act.put, zA, zB, zC]
      cases hb with
      | true =>
        refine wpE_one (i := 7) (o := { dst := some 42, op := _, type := _, pos := _, after := _, guard := _ }) (by kernel_rfl) rfl (fun K hK => ?_)
        go_simp
        refine hK.out _ _ (.inr HX3.out) ?_
        clear hK K
        try simp only [Act.put, zA, zB, zC]
        refine wpE_one (i := 8) (o := { dst := some 43, op := _, type := _, pos := _, after := _, guard := _ }) (by kernel_rfl) rfl (fun K hK => ?_)
        go_simp
        refine hK.out _ _ (.inr HX3.out) ?_
        clear hK K
        try simp only [Act.put, zA, zB, zC]
        refine wpE_one (i := 9) (o := { dst := some 44, op := _, type := _, pos := _, after := _, guard := _ }) (by kernel_rfl) rfl (fun K hK => ?_)
        go_simp
        refine hK.out _ _ (.inr HX3.out) ?_
        clear hK K
        try simp only [Act.put, zA, zB, zC]
        refine wpE_one (i := 10) (o := { dst := some 45, op := _, type := _, pos := _, after := _, guard := _ }) (by kernel_rfl) rfl (fun K hK => ?_)
        go_simp
        refine hK.out _ _ (.inr HX3.out) ?_
        clear hK K
        try simp only [Act.put, zA, zB, zC]
        refine wpE_one (i := 11) (o := { dst := some 46, op := _, type := _, pos := _, after := _, guard := _ }) (by kernel_rfl) rfl (fun K hK => ?_)
        go_simp
        refine hK.out _ _ (.inr HX3.out) ?_
        clear hK K
        try simp only [Act.put, zA, zB, zC]
        refine wpE_one (i := 12) (o := { dst := some 47, op := _, type := _, pos := _, after := _, guard := _ }) (by kernel_rfl) rfl (fun K hK => ?_)
        go_simp
        refine hK.out _ _ (.inr HX3.out) ?_
        clear hK K
        try simp only [Act.put, zA, zB, zC]
        refine wpE_one (i := 13) (o := { dst := some 48, op := _, type := _, pos := _, after := _, guard := _ }) (by kernel_rfl) rfl (fun K hK => ?_)
        go_simp
        refine hK.out _ _ (.inr HX3.out) ?_
        clear hK K
        try simp only [Act.put, zA, zB, zC]
        refine wpE_one (i := 14) (o := { dst := some 49, op := _, type := _, pos := _, after := _, guard := _ }) (by kernel_rfl) rfl (fun K hK => ?_)
        go_simp
        refine hK.out _ _ (.inr HX3.out) ?_
        clear hK K
        try simp only [Act.put, zA, zB, zC]
        refine wpE_one (i := 15) (o := { dst := some 50, op := _, type := _, pos := _, after := _, guard := _ }) (by kernel_rfl) rfl (fun K hK => ?_)
        go_simp
        refine hK.out _ _ (.inr HX3.out) ?_
        clear hK K
        try simp only [Act.put, zA, zB, zC]
        refine wpE_one (i := 16) (o := { dst := some 51, op := _, type := _, pos := _, after := _, guard := _ }) (by kernel_rfl) rfl (fun K hK => ?_)
        go_simp
        refine hK.out _ _ (.inr HX3.out) ?_
        clear hK K
        try simp only [Act.put, zA, zB, zC]
        refine wpE_one (i := 17) (o := { dst := some 52, op := _, type := _, pos := _, after := _, guard := _ }) (by kernel_rfl) rfl (fun K hK => ?_)
        go_simp
        refine hK.out _ _ (.inr HX3.out) ?_
        clear hK K
        try simp only [Act.put, zA, zB, zC]
        refine wpE_one (i := 18) (o := { dst := some 53, op := _, type := _, pos := _, after := _, guard := _ }) (by kernel_rfl) rfl (fun K hK => ?_)
        go_simp
        refine hK.out _ _ (.inr HX3.out) ?_
        clear hK K
        try simp only [Act.put, zA, zB, zC]
        refine wpE_done (by kernel_rfl) ?_
        go_wp2_with fail
        go_meet
        exact ⟨true, rfl, (fun e => by cases e), HX3.out⟩
      | false =>
        have HLG := qh (HLI.out rfl)
        by_cases k3 : wv = 3
        · subst k3
          refine wpE_one (i := 7) (o := { dst := some 42, op := _, type := _, pos := _, after := _, guard := _ }) (by kernel_rfl) rfl (fun K hK => ?_)
          go_simp
          refine hK.out _ _ (.inr HX3.out) ?_
          clear hK K
          try simp only [Act.put, zA, zB, zC]
          refine wpE_one (i := 8) (o := { dst := some 43, op := _, type := _, pos := _, after := _, guard := _ }) (by kernel_rfl) rfl (fun K hK => ?_)
          go_simp
          refine hK.out _ _ (.inr HX3.out) ?_
          clear hK K
          try simp only [Act.put, zA, zB, zC]
          refine wpE_one (i := 9) (o := { dst := some 44, op := _, type := _, pos := _, after := _, guard := _ }) (by kernel_rfl) rfl (fun K hK => ?_)
          go_simp
          refine hK.out _ _ (.inr HX3.out) ?_
          clear hK K
          try simp only [Act.put, zA, zB, zC]
          refine wpE_one (i := 10) (o := { dst := some 45, op := _, type := _, pos := _, after := _, guard := _ }) (by kernel_rfl) rfl (fun K hK => ?_)
          go_simp
          refine hK.out _ _ (.inr HX3.out) ?_
          clear hK K
          try simp only [Act.put, zA, zB, zC]
          refine wpE_one (i := 11) (o := { dst := some 46, op := _, type := _, pos := _, after := _, guard := _ }) (by kernel_rfl) rfl (fun K hK => ?_)
          go_simp
          refine hK.out _ _ (.inr HX3.out) ?_
          clear hK K
          try simp only [Act.put, zA, zB, zC]
          refine wpE_one (i := 12) (o := { dst := some 47, op := _, type := _, pos := _, after := _, guard := _ }) (by kernel_rfl) rfl (fun K hK => ?_)
          go_simp
          refine hK.out _ _ (.inr HX3.out) ?_
          clear hK K
          try simp only [Act.put, zA, zB, zC]
          refine wpE_one (i := 13) (o := { dst := some 48, op := _, type := _, pos := _, after := _, guard := _ }) (by kernel_rfl) rfl (fun K hK => ?_)
          go_simp
          refine hK.out _ _ (.inr HX3.out) ?_
          clear hK K
          try simp only [Act.put, zA, zB, zC]
          refine wpE_one (i := 14) (o := { dst := some 49, op := _, type := _, pos := _, after := _, guard := _ }) (by kernel_rfl) rfl (fun K hK => ?_)
          go_simp
          refine hK.out _ _ (.inr HX3.out) ?_
          clear hK K
          try simp only [Act.put, zA, zB, zC]
          refine wpE_one (i := 15) (o := { dst := some 50, op := _, type := _, pos := _, after := _, guard := _ }) (by kernel_rfl) rfl (fun K hK => ?_)
          go_simp
          refine hK.out _ _ (.inr HX3.out) ?_
          clear hK K
          try simp only [Act.put, zA, zB, zC]
          refine wpE_one (i := 16) (o := { dst := some 51, op := _, type := _, pos := _, after := _, guard := _ }) (by kernel_rfl) rfl (fun K hK => ?_)
          go_simp
          refine hK.out _ _ (.inr HX3.out) ?_
          clear hK K
          try simp only [Act.put, zA, zB, zC]
          refine wpE_one (i := 17) (o := { dst := some 52, op := _, type := _, pos := _, after := _, guard := _ }) (by kernel_rfl) rfl (fun K hK => ?_)
          go_simp
          refine hK.out _ _ (.inr HX3.out) ?_
          clear hK K
          try simp only [Act.put, zA, zB, zC]
          refine wpE_one (i := 18) (o := { dst := some 53, op := _, type := _, pos := _, after := _, guard := _ }) (by kernel_rfl) rfl (fun K hK => ?_)
          go_simp
          refine hK.out _ _ (.inr HX3.out) ?_
          clear hK K
          try simp only [Act.put, zA, zB, zC]
          refine wpE_done (by kernel_rfl) ?_
          go_wp2_with fail
          go_meet
          exact ⟨false, rfl, (fun _ => ⟨HLG.out, by simp⟩), HX3.out⟩
        by_cases k5 : wv = 5
        · subst k5
          refine wpE_one (i := 7) (o := { dst := some 42, op := _, type := _, pos := _, after := _, guard := _ }) (by kernel_rfl) rfl (fun K hK => ?_)
          go_simp
          refine hK.out _ _ (.inr HX3.out) ?_
          clear hK K
          try simp only [Act.put, zA, zB, zC]
          refine wpE_one (i := 8) (o := { dst := some 43, op := _, type := _, pos := _, after := _, guard := _ }) (by kernel_rfl) rfl (fun K hK => ?_)
          go_simp
          refine hK.out _ _ (.inr HX3.out) ?_
          clear hK K
          try simp only [Act.put, zA, zB, zC]
          refine wpE_one (i := 9) (o := { dst := some 44, op := _, type := _, pos := _, after := _, guard := _ }) (by kernel_rfl) rfl (fun K hK => ?_)
          go_simp
          refine hK.out _ _ (.inr HX3.out) ?_
          clear hK K
          try simp only [Act.put, zA, zB, zC]
          refine wpE_one (i := 10) (o := { dst := some 45, op := _, type := _, pos := _, after := _, guard := _ }) (by kernel_rfl) rfl (fun K hK => ?_)
          go_simp
          refine hK.out _ _ (.inr HX3.out) ?_
          clear hK K
          try simp only [Act.put, zA, zB, zC]
          refine wpE_one (i := 11) (o := { dst := some 46, op := _, type := _, pos := _, after := _, guard := _ }) (by kernel_rfl) rfl (fun K hK => ?_)
          go_simp
          refine hK.out _ _ (.inr HX3.out) ?_
          clear hK K
          try simp only [Act.put, zA, zB, zC]
          refine wpE_one (i := 12) (o := { dst := some 47, op := _, type := _, pos := _, after := _, guard := _ }) (by kernel_rfl) rfl (fun K hK => ?_)
          go_simp
          refine hK.out _ _ (.inr HX3.out) ?_
          clear hK K
          try simp only [Act.put, zA, zB, zC]
          refine wpE_one (i := 13) (o := { dst := some 48, op := _, type := _, pos := _, after := _, guard := _ }) (by kernel_rfl) rfl (fun K hK => ?_)
          go_simp
          refine hK.out _ _ (.inr HX3.out) ?_
          clear hK K
          try simp only [Act.put, zA, zB, zC]
          refine wpE_one (i := 14) (o := { dst := some 49, op := _, type := _, pos := _, after := _, guard := _ }) (by kernel_rfl) rfl (fun K hK => ?_)
          go_simp
          refine hK.out _ _ (.inr HX3.out) ?_
          clear hK K
          try simp only [Act.put, zA, zB, zC]
          refine wpE_one (i := 15) (o := { dst := some 50, op := _, type := _, pos := _, after := _, guard := _ }) (by kernel_rfl) rfl (fun K hK => ?_)
          go_simp
          refine hK.out _ _ (.inr HX3.out) ?_
          clear hK K
          try simp only [Act.put, zA, zB, zC]
          refine wpE_one (i := 16) (o := { dst := some 51, op := _, type := _, pos := _, after := _, guard := _ }) (by kernel_rfl) rfl (fun K hK => ?_)
          go_simp
          refine hK.out _ _ (.inr HX3.out) ?_
          clear hK K
          try simp only [Act.put, zA, zB, zC]
          refine wpE_one (i := 17) (o := { dst := some 52, op := _, type := _, pos := _, after := _, guard := _ }) (by kernel_rfl) rfl (fun K hK => ?_)
          go_simp
          refine hK.out _ _ (.inr HX3.out) ?_
          clear hK K
          try simp only [Act.put, zA, zB, zC]
          refine wpE_one (i := 18) (o := { dst := some 53, op := _, type := _, pos := _, after := _, guard := _ }) (by kernel_rfl) rfl (fun K hK => ?_)
          go_simp
          refine hK.out _ _ (.inr HX3.out) ?_
          clear hK K
          try simp only [Act.put, zA, zB, zC]
          refine wpE_done (by kernel_rfl) ?_
          go_wp2_with fail
          go_meet
          exact ⟨false, rfl, (fun _ => ⟨HLG.out, by simp⟩), HX3.out⟩
        by_cases k13 : wv = 13
        · subst k13
          refine wpE_one (i := 7) (o := { dst := some 42, op := _, type := _, pos := _, after := _, guard := _ }) (by kernel_rfl) rfl (fun K hK => ?_)
          go_simp
          refine hK.out _ _ (.inr HX3.out) ?_
          clear hK K
          try simp only [Act.put, zA, zB, zC]
          refine wpE_one (i := 8) (o := { dst := some 43, op := _, type := _, pos := _, after := _, guard := _ }) (by kernel_rfl) rfl (fun K hK => ?_)
          go_simp
          refine hK.out _ _ (.inr HX3.out) ?_
          clear hK K
          try simp only [Act.put, zA, zB, zC]
          refine wpE_one (i := 9) (o := { dst := some 44, op := _, type := _, pos := _, after := _, guard := _ }) (by kernel_rfl) rfl (fun K hK => ?_)
          go_simp
          refine hK.out _ _ (.inr HX3.out) ?_
          clear hK K
          try simp only [Act.put, zA, zB, zC]
          refine wpE_one (i := 10) (o := { dst := some 45, op := _, type := _, pos := _, after := _, guard := _ }) (by kernel_rfl) rfl (fun K hK => ?_)
          go_simp
          refine hK.out _ _ (.inr HX3.out) ?_
          clear hK K
          try simp only [Act.put, zA, zB, zC]
          refine wpE_one (i := 11) (o := { dst := some 46, op := _, type := _, pos := _, after := _, guard := _ }) (by kernel_rfl) rfl (fun K hK => ?_)
          go_simp
          refine hK.out _ _ (.inr HX3.out) ?_
          clear hK K
          try simp only [Act.put, zA, zB, zC]
          refine wpE_one (i := 12) (o := { dst := some 47, op := _, type := _, pos := _, after := _, guard := _ }) (by kernel_rfl) rfl (fun K hK => ?_)
          go_simp
          refine hK.out _ _ (.inr HX3.out) ?_
          clear hK K
          try simp only [Act.put, zA, zB, zC]
          refine wpE_one (i := 13) (o := { dst := some 48, op := _, type := _, pos := _, after := _, guard := _ }) (by kernel_rfl) rfl (fun K hK => ?_)
          go_simp
          refine hK.out _ _ (.inr HX3.out) ?_
          clear hK K
          try simp only [Act.put, zA, zB, zC]
          refine wpE_one (i := 14) (o := { dst := some 49, op := _, type := _, pos := _, after := _, guard := _ }) (by kernel_rfl) rfl (fun K hK => ?_)
          go_simp
          refine hK.out _ _ (.inr HX3.out) ?_
          clear hK K
          try simp only [Act.put, zA, zB, zC]
          refine wpE_one (i := 15) (o := { dst := some 50, op := _, type := _, pos := _, after := _, guard := _ }) (by kernel_rfl) rfl (fun K hK => ?_)
          go_simp
          refine hK.out _ _ (.inr HX3.out) ?_
          clear hK K
          try simp only [Act.put, zA, zB, zC]
          refine wpE_one (i := 16) (o := { dst := some 51, op := _, type := _, pos := _, after := _, guard := _ }) (by kernel_rfl) rfl (fun K hK => ?_)
          go_simp
          refine hK.out _ _ (.inr HX3.out) ?_
          clear hK K
          try simp only [Act.put, zA, zB, zC]
          refine wpE_one (i := 17) (o := { dst := some 52, op := _, type := _, pos := _, after := _, guard := _ }) (by kernel_rfl) rfl (fun K hK => ?_)
          go_simp
          refine hK.out _ _ (.inr HX3.out) ?_
          clear hK K
          try simp only [Act.put, zA, zB, zC]
          refine wpE_one (i := 18) (o := { dst := some 53, op := _, type := _, pos := _, after := _, guard := _ }) (by kernel_rfl) rfl (fun K hK => ?_)
          go_simp
          refine hK.out _ _ (.inr HX3.out) ?_
          clear hK K
          try simp only [Act.put, zA, zB, zC]
          refine wpE_done (by kernel_rfl) ?_
          go_wp2_with fail
          go_meet
          exact ⟨false, rfl, (fun _ => ⟨HLG.out, by simp⟩), HX3.out⟩
        refine wpE_one (i := 7) (o := { dst := some 42, op := _, type := _, pos := _, after := _, guard := _ }) (by kernel_rfl) rfl (fun K hK => ?_)
        go_simp
        refine hK.out _ _ (.inr HX3.out) ?_
        clear hK K
        try simp only [Act.put, zA, zB, zC]
        refine wpE_one (i := 8) (o := { dst := some 43, op := _, type := _, pos := _, after := _, guard := _ }) (by kernel_rfl) rfl (fun K hK => ?_)
        go_simp
        refine hK.out _ _ (.inr HX3.out) ?_
        clear hK K
        try simp only [Act.put, zA, zB, zC]
        refine wpE_one (i := 9) (o := { dst := some 44, op := _, type := _, pos := _, after := _, guard := _ }) (by kernel_rfl) rfl (fun K hK => ?_)
        go_simp
        refine hK.out _ _ (.inr HX3.out) ?_
        clear hK K
        try simp only [Act.put, zA, zB, zC]
        refine wpE_one (i := 10) (o := { dst := some 45, op := _, type := _, pos := _, after := _, guard := _ }) (by kernel_rfl) rfl (fun K hK => ?_)
        go_simp
        refine hK.out _ _ (.inr HX3.out) ?_
        clear hK K
        try simp only [Act.put, zA, zB, zC]
        refine wpE_one (i := 11) (o := { dst := some 46, op := _, type := _, pos := _, after := _, guard := _ }) (by kernel_rfl) rfl (fun K hK => ?_)
        go_simp
        refine hK.out _ _ (.inr HX3.out) ?_
        clear hK K
        try simp only [Act.put, zA, zB, zC]
        refine wpE_one (i := 12) (o := { dst := some 47, op := _, type := _, pos := _, after := _, guard := _ }) (by kernel_rfl) rfl (fun K hK => ?_)
        go_simp
        refine hK.out _ _ (.inr HX3.out) ?_
        clear hK K
        try simp only [Act.put, zA, zB, zC]
        refine wpE_one (i := 13) (o := { dst := some 48, op := _, type := _, pos := _, after := _, guard := _ }) (by kernel_rfl) rfl (fun K hK => ?_)
        go_simp
        refine hK.out _ _ (.inr HX3.out) ?_
        clear hK K
        try simp only [Act.put, zA, zB, zC]
        refine wpE_one (i := 14) (o := { dst := some 49, op := _, type := _, pos := _, after := _, guard := _ }) (by kernel_rfl) rfl (fun K hK => ?_)
        go_simp
        refine hK.out _ _ (.inr HX3.out) ?_
        clear hK K
        try simp only [Act.put, zA, zB, zC]
        refine wpE_one (i := 15) (o := { dst := some 50, op := _, type := _, pos := _, after := _, guard := _ }) (by kernel_rfl) rfl (fun K hK => ?_)
        go_simp
        refine hK.out _ _ (.inr HX3.out) ?_
        clear hK K
        try simp only [Act.put, zA, zB, zC]
        refine wpE_one (i := 16) (o := { dst := some 51, op := _, type := _, pos := _, after := _, guard := _ }) (by kernel_rfl) rfl (fun K hK => ?_)
        go_simp
        refine hK.out _ _ (.inr HX3.out) ?_
        clear hK K
        try simp only [Act.put, zA, zB, zC]
        refine wpE_one (i := 17) (o := { dst := some 52, op := _, type := _, pos := _, after := _, guard := _ }) (by kernel_rfl) rfl (fun K hK => ?_)
        go_simp
        refine hK.out _ _ (.inr HX3.out) ?_
        clear hK K
        try simp only [Act.put, zA, zB, zC]
        refine wpE_one (i := 18) (o := { dst := some 53, op := _, type := _, pos := _, after := _, guard := _ }) (by kernel_rfl) rfl (fun K hK => ?_)
        go_simp
        refine hK.out _ _ (.inr HX3.out) ?_
        clear hK K
        try simp only [Act.put, zA, zB, zC]
        refine wpE_done (by kernel_rfl) ?_
        go_wp2_with fail
        go_meet
        exact ⟨true, by simp [k3, k5, k13], (fun e => by cases e), HX3.out⟩
    subst hA
    simp only [Act.put, zA, zB, zC] at fin
    have FINL := qh fin
    clear fin
    have HZ := qh hS
    clear hS
    refine hto _ _ _ _ ?_
    refine wpE_two (i := 0) (j := 4) (oi := { dst := some 35, op := _, type := _, pos := _, after := _, guard := none }) (oj := { dst := some 39, op := _, type := _, pos := _, after := _, guard := none }) (by kernel_rfl) rfl rfl (fun K hK => ?_) (fun K hK => ?_)
    · go_simp
      obtain ⟨w1, hw1⟩ : ∃ W : World, W = wz.alloc (.cells #[] 39) := ⟨_, rfl⟩
      have xx := (Ext.refl wz).alloc (.cells #[] 39)
      have bb := heap_alloc_new wz (.cells #[] 39)
      obtain ⟨bw1, hbw1⟩ : ∃ b, wz.heap.size = b := ⟨_, rfl⟩
      rw [← hw1] at xx bb
      rw [hbw1] at bb
      have Xw1 := qh xx
      have Bw1 := qh bb
      rw [← hw1, hbw1]
      clear hw1 hbw1 xx bb
      have HX_ := qh (HZ.out.trans Xw1.out)
      refine hK.out _ _ (.inr HX_.out) ?_
      clear hK K
      try simp only [Act.put, zA, zB, zC]
      refine wpE_two (i := 2) (j := 4) (oi := { dst := some 37, op := _, type := _, pos := _, after := _, guard := none }) (oj := { dst := some 39, op := _, type := _, pos := _, after := _, guard := none }) (by kernel_rfl) rfl rfl (fun K hK => ?_) (fun K hK => ?_)
      · obtain ⟨v1, w3, hrun, hr, hx⟩ := copy_calls (w := w1) (b := bw1) ((HCELL.out.rd.ext XO.out).ext (HX_.out)) HBIG.out (clX_one HCELL.out.vals _ (Nat.le_refl _))
        have HRUN := qh hrun
        refine step_append_run (by rfl) _ _ 22 (by rfl) (.slice (some ⟨bw1, 0, none⟩) 0 0) (.slice lao l.length lcap) (by rfl) (by rfl) v1 w3 HRUN.out ?_
        have HX3 := qh (HX_.out.trans hx)
        have HR := qh (hr.imp (q := fun g => wo.heap.size ≤ g) fun g _ hg => Nat.le_trans HX_.out.size hg)
        clear hrun hr hx
        refine hK.out _ _ (.inr HX3.out) ?_
        clear hK K
        try simp only [Act.put, zA, zB, zC]
        refine wpE_on 4 (some 39) rfl (fun K hK => ?_)
        go_simp
        obtain ⟨w4, hw4⟩ : ∃ W : World, W = w3.alloc (.cells #[.int .i64 c.what, .int .i64 c.a, .int .i64 c.b, .int .i64 c.c, .string c.s, .slice aa c.attrs.length acap, .int .i64 c.n.tag, .slice naa c.n.attrs.length nac, .string c.n.text, .slice nka c.n.kids.length nkc] 39) := ⟨_, rfl⟩
        have xx := (Ext.refl w3).alloc (.cells #[.int .i64 c.what, .int .i64 c.a, .int .i64 c.b, .int .i64 c.c, .string c.s, .slice aa c.attrs.length acap, .int .i64 c.n.tag, .slice naa c.n.attrs.length nac, .string c.n.text, .slice nka c.n.kids.length nkc] 39)
        have bb := heap_alloc_new w3 (.cells #[.int .i64 c.what, .int .i64 c.a, .int .i64 c.b, .int .i64 c.c, .string c.s, .slice aa c.attrs.length acap, .int .i64 c.n.tag, .slice naa c.n.attrs.length nac, .string c.n.text, .slice nka c.n.kids.length nkc] 39)
        obtain ⟨bw4, hbw4⟩ : ∃ b, w3.heap.size = b := ⟨_, rfl⟩
        rw [← hw4] at xx bb
        rw [hbw4] at bb
        have Xw4 := qh xx
        have Bw4 := qh bb
        rw [← hw4, hbw4]
        clear hw4 hbw4 xx bb
        have HX4 := qh (HX3.out.trans Xw4.out)
        refine hK.out _ _ (.inr HX4.out) ?_
        clear hK K
        try simp only [Act.put, zA, zB, zC]
        exact hof _ _ _ _ (FINL.out _ _ _ _ HX4.out (RowP.ext HR.out Xw4.out) Bw4.out)
      · go_simp
        obtain ⟨w2, hw2⟩ : ∃ W : World, W = w1.alloc (.cells #[.int .i64 c.what, .int .i64 c.a, .int .i64 c.b, .int .i64 c.c, .string c.s, .slice aa c.attrs.length acap, .int .i64 c.n.tag, .slice naa c.n.attrs.length nac, .string c.n.text, .slice nka c.n.kids.length nkc] 39) := ⟨_, rfl⟩
        have xx := (Ext.refl w1).alloc (.cells #[.int .i64 c.what, .int .i64 c.a, .int .i64 c.b, .int .i64 c.c, .string c.s, .slice aa c.attrs.length acap, .int .i64 c.n.tag, .slice naa c.n.attrs.length nac, .string c.n.text, .slice nka c.n.kids.length nkc] 39)
        have bb := heap_alloc_new w1 (.cells #[.int .i64 c.what, .int .i64 c.a, .int .i64 c.b, .int .i64 c.c, .string c.s, .slice aa c.attrs.length acap, .int .i64 c.n.tag, .slice naa c.n.attrs.length nac, .string c.n.text, .slice nka c.n.kids.length nkc] 39)
        obtain ⟨bw2, hbw2⟩ : ∃ b, w1.heap.size = b := ⟨_, rfl⟩
        rw [← hw2] at xx bb
        rw [hbw2] at bb
        have Xw2 := qh xx
        have Bw2 := qh bb
        rw [← hw2, hbw2]
        clear hw2 hbw2 xx bb
        have HX1 := qh HX_.out
        clear HX_
        have HX_ := qh (HX1.out.trans Xw2.out)
        refine hK.out _ _ (.inr HX_.out) ?_
        clear hK K
        try simp only [Act.put, zA, zB, zC]
        refine wpE_on 2 (some 37) rfl (fun K hK => ?_)
        obtain ⟨v1, w3, hrun, hr, hx⟩ := copy_calls (w := w2) (b := bw1) ((HCELL.out.rd.ext XO.out).ext (HX_.out)) HBIG.out (clX_one HCELL.out.vals _ (Nat.le_refl _))
        have HRUN := qh hrun
        refine step_append_run (by rfl) _ _ 22 (by rfl) (.slice (some ⟨bw1, 0, none⟩) 0 0) (.slice lao l.length lcap) (by rfl) (by rfl) v1 w3 HRUN.out ?_
        have HX3 := qh (HX_.out.trans hx)
        have HR := qh (hr.imp (q := fun g => wo.heap.size ≤ g) fun g _ hg => Nat.le_trans HX_.out.size hg)
        have HB4 := qh (hx.block Bw2.out)
        clear hrun hr hx
        refine hK.out _ _ (.inr HX3.out) ?_
        clear hK K
        try simp only [Act.put, zA, zB, zC]
        exact hof _ _ _ _ (FINL.out _ _ _ _ HX3.out HR.out HB4.out)
    · go_simp
      obtain ⟨w1, hw1⟩ : ∃ W : World, W = wz.alloc (.cells #[.int .i64 c.what, .int .i64 c.a, .int .i64 c.b, .int .i64 c.c, .string c.s, .slice aa c.attrs.length acap, .int .i64 c.n.tag, .slice naa c.n.attrs.length nac, .string c.n.text, .slice nka c.n.kids.length nkc] 39) := ⟨_, rfl⟩
      have xx := (Ext.refl wz).alloc (.cells #[.int .i64 c.what, .int .i64 c.a, .int .i64 c.b, .int .i64 c.c, .string c.s, .slice aa c.attrs.length acap, .int .i64 c.n.tag, .slice naa c.n.attrs.length nac, .string c.n.text, .slice nka c.n.kids.length nkc] 39)
      have bb := heap_alloc_new wz (.cells #[.int .i64 c.what, .int .i64 c.a, .int .i64 c.b, .int .i64 c.c, .string c.s, .slice aa c.attrs.length acap, .int .i64 c.n.tag, .slice naa c.n.attrs.length nac, .string c.n.text, .slice nka c.n.kids.length nkc] 39)
      obtain ⟨bw1, hbw1⟩ : ∃ b, wz.heap.size = b := ⟨_, rfl⟩
      rw [← hw1] at xx bb
      rw [hbw1] at bb
      have Xw1 := qh xx
      have Bw1 := qh bb
      rw [← hw1, hbw1]
      clear hw1 hbw1 xx bb
      have HX1 := qh (HZ.out.trans Xw1.out)
      refine hK.out _ _ (.inr HX1.out) ?_
      clear hK K
      try simp only [Act.put, zA, zB, zC]
      refine wpE_on 0 (some 35) rfl (fun K hK => ?_)
      go_simp
      obtain ⟨w2, hw2⟩ : ∃ W : World, W = w1.alloc (.cells #[] 39) := ⟨_, rfl⟩
      have xx := (Ext.refl w1).alloc (.cells #[] 39)
      have bb := heap_alloc_new w1 (.cells #[] 39)
      obtain ⟨bw2, hbw2⟩ : ∃ b, w1.heap.size = b := ⟨_, rfl⟩
      rw [← hw2] at xx bb
      rw [hbw2] at bb
      have Xw2 := qh xx
      have Bw2 := qh bb
      rw [← hw2, hbw2]
      clear hw2 hbw2 xx bb
      have HX_ := qh (HX1.out.trans Xw2.out)
      refine hK.out _ _ (.inr HX_.out) ?_
      clear hK K
      try simp only [Act.put, zA, zB, zC]
      refine wpE_on 2 (some 37) rfl (fun K hK => ?_)
      obtain ⟨v1, w3, hrun, hr, hx⟩ := copy_calls (w := w2) (b := bw2) ((HCELL.out.rd.ext XO.out).ext (HX_.out)) HBIG.out (clX_one HCELL.out.vals _ (Nat.le_refl _))
      have HRUN := qh hrun
      refine step_append_run (by rfl) _ _ 22 (by rfl) (.slice (some ⟨bw2, 0, none⟩) 0 0) (.slice lao l.length lcap) (by rfl) (by rfl) v1 w3 HRUN.out ?_
      have HX3 := qh (HX_.out.trans hx)
      have HR := qh (hr.imp (q := fun g => wo.heap.size ≤ g) fun g _ hg => Nat.le_trans HX_.out.size hg)
      have HB4 := qh (hx.block (Xw2.out.block Bw1.out))
      clear hrun hr hx
      refine hK.out _ _ (.inr HX3.out) ?_
      clear hK K
      try simp only [Act.put, zA, zB, zC]
      exact hof _ _ _ _ (FINL.out _ _ _ _ HX3.out HR.out HB4.out)
  case rest =>
    obtain ⟨r, rfl, hr, hxc⟩ := hcut
    have XC := qh (XO.out.trans hxc)
    have ZA := qh (hxc.block HBA.out)
    have ZB := qh (hxc.block HBB.out)
    have ZO := qh (hxc.block HBO.out)
    have HLR2 := qh (HLR.out.ext XC.out)
    clear hxc
    clear HCELL HLR XO HBA HBB HBO HSA HWA HWB HWO HCV HBIG
    cases r with
    | true =>
      clear hr
      go_wp2_with (go_at_call 7; refine (awake11_any _).mono ?_; rintro e w4 ⟨rfl, hx4⟩)
      go_ret
      exact ⟨rfl, XC.out.trans hx4⟩
    | false =>
      obtain ⟨hlg, hwv⟩ := hr rfl
      clear hr
      have HWV := qh hwv
      have HLT : Hid (Light l) := qh ⟨by have := hlg.1; simp only [List.length_append] at this; omega, fun c' hc' => hlg.2 c' (List.mem_append_left _ hc')⟩
      have HLC : Hid (LightCl c) := qh (hlg.2 c (by simp))
      clear hlg hwv
      go_wp2_with fail
      refine (played_any cap deep HLR2.out (Ext.refl _) HLT.out).mono ?_
      rintro e u0 (⟨rfl, hx0⟩ | ⟨lb, xb, T, H, rfl, hst, hlen, hj⟩)
      · go_wp2_with (go_at_call 7; refine (awake11_any _).mono ?_; rintro e w4 ⟨rfl, hx4⟩)
        go_ret
        exact ⟨rfl, XC.out.trans (hx0.trans hx4)⟩
      · have hlim : H.length ≤ 200 := by have := HLT.out.1; omega
        obtain ⟨own, ptr, tb, hv, hb, hLV⟩ := hj.live
        obtain ⟨⟨d, hw⟩, ha⟩ := hst.good
        obtain ⟨zc, hzc⟩ : ∃ z, T.cmp an aat bn bat = z := ⟨_, rfl⟩
        obtain ⟨ok, hok⟩ : ∃ b, T.cmpOk an aat bn bat = b := ⟨_, rfl⟩
        have HCMP := qh (fun (u : ExtOf u0) => inExt (u := u) (by
          have hLu := hLV.ext u.ext
          have h9 := Cmp_any (hLu.tree.tat hLu.ownd) hw ha an aat bn bat
          rw [hzc, hok] at h9
          exact h9))
        obtain ⟨x1, er1, H1, hst1, hlo1, hhi1, key1, pd1, -⟩ := Hold_both hst (by omega) an aat
        obtain ⟨x2, er2, H2, hst2, hlo2, hhi2, key2, pd2, -⟩ := Hold_both hst1 (by omega) bn bat
        have HH2 : Hid (H2.length ≤ 300) := qh (by omega)
        have HST2 := qh hst2
        have KEY1 := qh key1
        have KEY2 := qh key2
        have PD1 := qh pd1
        have PD2 := qh pd2
        have HW := qh (⟨d, hw⟩ : ∃ d, WF T d)
        have HAA := qh ha
        have HZC := qh hzc
        have HOK := qh hok
        have J0 := qh hj
        have HLV := qh hLV
        have A1 := qh (hj.told (cellOf ZA.out (i := 0) (v := .int .i64 an) rfl))
        have A2 := qh (hj.told (cellOf ZA.out (i := 1) (v := .int .i64 aat) rfl))
        have B1 := qh (hj.told (cellOf ZB.out (i := 0) (v := .int .i64 bn) rfl))
        have B2 := qh (hj.told (cellOf ZB.out (i := 1) (v := .int .i64 bat) rfl))
        clear hst hlen hj hLV hw ha hzc hok hst1 hst2 hlo1 hhi1 hlo2 hhi2 key1 key2 pd1 pd2 hlim
        go_upto_region 7 with fail
        have r0 : ∀ u : ExtOf u0, u.val.cell? ⟨lb, 0, none⟩ = some (.pointer (some ⟨tb, 0, none⟩)) := fun u => (HLV.out.ext u.ext).ptr_
        have r1 : ∀ u : ExtOf u0, u.val.cell? ⟨BA, 0, none⟩ = some (.int .i64 an) := fun u => u.ext.cell A1.out
        have r2 : ∀ u : ExtOf u0, u.val.cell? ⟨BA, 1, none⟩ = some (.int .i64 aat) := fun u => u.ext.cell A2.out
        have r3 : ∀ u : ExtOf u0, u.val.cell? ⟨BA + 1, 0, none⟩ = some (.int .i64 bn) := fun u => u.ext.cell B1.out
        have r4 : ∀ u : ExtOf u0, u.val.cell? ⟨BA + 1, 1, none⟩ = some (.int .i64 bat) := fun u => u.ext.cell B2.out
        refine wp_region_ext (by kernel_rfl) (by kernel_rfl) ?_
        repeat (go_big_quiet_step ((go_at_call 20; exact HCMP.out _)))
        refine wpQuiet_nil ?_
        rintro _ ⟨u, rfl⟩
        have hx9 := u.ext
        obtain ⟨w9, hw9⟩ : ∃ W, u.val = W := ⟨_, rfl⟩
        rw [hw9] at hx9 ⊢
        clear r0 r1 r2 r3 r4 hw9 HCMP
        clear u
        have J1 := qh (J0.out.more hx9)
        clear hx9 J0 HLV A1 A2 B1 B2
        have c0 := J1.out.told (cellOf ZA.out (i := 0) (v := .int .i64 an) rfl)
        have c1 := J1.out.told (cellOf ZA.out (i := 1) (v := .int .i64 aat) rfl)
        go_upto_region 9 with (go_at_call 21; refine (J1.out.live_ (v := .tuple #[.int .i64 x1, .int .i64 er1]) (T' := T) (H' := H1) fun own ptr tb hv hb h1 _ => PD1.out _ own ptr lb tb hv hb h1).mono ?_; rintro e u3 ⟨rfl, hj3⟩; have J2 := qh hj3; clear hj3)
        clear c0 c1 PD1 J1
        have c2 := J2.out.told (cellOf ZB.out (i := 0) (v := .int .i64 bn) rfl)
        have c3 := J2.out.told (cellOf ZB.out (i := 1) (v := .int .i64 bat) rfl)
        go_upto_region 10 with (go_at_call 21; refine (J2.out.live_ (v := .tuple #[.int .i64 x2, .int .i64 er2]) (T' := T) (H' := H2) fun own ptr tb hv hb h1 _ => PD2.out _ own ptr lb tb hv hb h1).mono ?_; rintro e u4 ⟨rfl, hj4⟩; have J3 := qh hj4; clear hj4)
        clear c2 c3 PD2 J2
        cases ok with
        | false =>
          go_wp2_with (go_at_call 7; refine (awake11_any _).mono ?_; rintro e w4 ⟨rfl, hx4⟩)
          go_ret
          exact ⟨rfl, XC.out.trans (J3.out.ext.trans hx4)⟩
        | true =>
          obtain ⟨ma, mb, -⟩ := (cmpOk_iff _ _ _ _ _).1 HOK.out
          obtain ⟨rfl, k1, rfl, hk1, -⟩ := KEY1.out ma
          obtain ⟨rfl, k2, rfl, hk2, hsame⟩ := KEY2.out mb
          have hk1' : H2[k1]? = some ⟨an, aat, 0⟩ := (hsame k1 (by rw [heldAt_of hk1 rfl]; exact fun e => by cases e)).trans hk1
          have HK1 := qh hk1'
          have HK2 := qh hk2
          clear ma mb hk1 hk2 hsame hk1' KEY1 KEY2
          obtain ⟨d, hw⟩ := HW.out
          obtain ⟨rd, hrd, _, _⟩ := hw.root
          have hms : (T.plain 0).size ≤ 2000 := by
            have h1 := hw.pre_len 0 ⟨rd, Tr.get_of hrd⟩
            have h2 := allOf_2000 hw 0
            unfold Tr.allOf at h2
            rw [show T.get? 0 = some rd from Tr.get_of hrd] at h2
            dsimp only at h2
            omega
          obtain ⟨own, ptr, tb, hv, hb, hLV⟩ := J3.out.live
          have HPL : Hid (∀ u : World, Ext u4 u → Calls Tryz.prog 23 #[.pointer (some ⟨tb, 0, none⟩), .int .i64 0] u (PlainIs (T.plain 0) u)) := qh (fun u x => Plain_some (hLV.ext x).tree (hLV.ext x).ownd hw HAA.out (i := 0) hrd)
          have HCO := qh (fun (u : World) (x : Ext u4 u) => (Count_any (hLV.ext x).tree))
          have HMS := qh hms
          have T0 := qh hLV.ptr_
          clear hw hrd hms hLV
          go_upto_region 12 with fail
          obtain ⟨m, hm⟩ : ∃ m : Nat, (T.plain 0).size = m := ⟨_, rfl⟩
          have HM := qh hm
          clear hm
          go_cut [21, 22] (fun x y wx => x = .int .i64 m ∧ y = .int .i64 T.count ∧ Ext u4 wx)
          case first =>
            refine wp_region_E (S := fun w' => Ext u4 w') (n := 13) (by kernel_rfl) ?_
            have hS : Ext u4 u4.drew := (Ext.refl u4).drew
            obtain ⟨wz, hwz⟩ : ∃ W : World, W = u4.drew := ⟨_, rfl⟩
            rw [← hwz] at hS ⊢
            clear hwz
            show wpE _ _ _ _ _ 13 13 (Array.replicate 13 false) _ _
            have y0 := T0.out
            refine wpE_tk 0 95 (.pointer (some ⟨lb, 0, none⟩)) rfl (.inl ⟨by rfl, fun w' hSw => ?_⟩) hS ?_
            · (have y1 := hSw.cell y0; clear hS y0; go_simp)
            try simp only [Act.put, zA, zB, zC]
            refine wpE_tk 1 96 (.pointer (some ⟨lb, 0, none⟩)) rfl (.inl ⟨by rfl, fun w' hSw => ?_⟩) hS ?_
            · (have y1 := hSw.cell y0; clear hS y0; go_simp)
            try simp only [Act.put, zA, zB, zC]
            refine wpE_tk 2 97 (.pointer (some ⟨lb, 0, none⟩)) rfl (.inl ⟨by rfl, fun w' hSw => ?_⟩) hS ?_
            · (have y1 := hSw.cell y0; clear hS y0; go_simp)
            try simp only [Act.put, zA, zB, zC]
            refine wpE_tk 3 98 (.pointer (some ⟨tb, 0, none⟩)) rfl (.inl ⟨by rfl, fun w' hSw => ?_⟩) hS ?_
            · (have y1 := hSw.cell y0; clear hS y0; go_simp)
            try simp only [Act.put, zA, zB, zC]
            refine wpE_tk 6 101 (.pointer (some ⟨lb, 0, none⟩)) rfl (.inl ⟨by rfl, fun w' hSw => ?_⟩) hS ?_
            · (have y1 := hSw.cell y0; clear hS y0; go_simp)
            try simp only [Act.put, zA, zB, zC]
            refine wpE_tk 7 102 (.pointer (some ⟨lb, 0, none⟩)) rfl (.inl ⟨by rfl, fun w' hSw => ?_⟩) hS ?_
            · (have y1 := hSw.cell y0; clear hS y0; go_simp)
            try simp only [Act.put, zA, zB, zC]
            refine wpE_tk 8 103 (.pointer (some ⟨lb, 0, none⟩)) rfl (.inl ⟨by rfl, fun w' hSw => ?_⟩) hS ?_
            · (have y1 := hSw.cell y0; clear hS y0; go_simp)
            try simp only [Act.put, zA, zB, zC]
            refine wpE_tk 9 104 (.pointer (some ⟨tb, 0, none⟩)) rfl (.inl ⟨by rfl, fun w' hSw => ?_⟩) hS ?_
            · (have y1 := hSw.cell y0; clear hS y0; go_simp)
            try simp only [Act.put, zA, zB, zC]
            clear y0
            have HZ := qh hS
            clear hS
            refine name_act fun A hA => with_wpE fun W hto hof => ?_
            subst hA
            refine hto _ _ _ _ ?_
            refine wpE_on 4 (some 99) rfl (fun K hK => ?_)
            go_simp
            go_at_call 23
            refine (HPL.out _ HZ.out).mono ?_
            rintro e v1 ⟨pv, pg, rfl, hpn, hxp, hpg⟩
            have HPN := qh (hpn.cells fun q y hq => (hpg q y hq).1)
            have HXP := qh (HZ.out.trans hxp)
            clear hpn hxp hpg
            refine hK.out _ _ (.inr HXP.out) ?_
            clear hK K
            try simp only [Act.put, zA, zB, zC]
            refine wpE_on 5 (some 100) rfl (fun K hK => ?_)
            go_simp
            go_at_call 22
            refine (Size_any (w0 := v1) _ _ _ (by have := HMS.out; omega) HPN.out (Ext.refl _)).mono ?_
            rintro e v2 ⟨rfl, hxs⟩
            have HXS := qh (HXP.out.trans hxs)
            clear hxs
            rw [HM.out]
            refine hK.out _ _ (.inr HXS.out) ?_
            clear hK K
            try simp only [Act.put, zA, zB, zC]
            refine wpE_on 10 (some 105) rfl (fun K hK => ?_)
            go_simp
            go_at_call 24
            refine (HCO.out _ HXS.out).mono ?_
            rintro e v3 ⟨rfl, rfl⟩
            refine hK.out _ _ (.inr HXS.out) ?_
            clear hK K
            try simp only [Act.put, zA, zB, zC]
            refine wpE_on 11 (some 21) rfl (fun K hK => ?_)
            go_simp
            refine hK.out _ _ (.inr HXS.out) ?_
            clear hK K
            try simp only [Act.put, zA, zB, zC]
            refine wpE_on 12 (some 22) rfl (fun K hK => ?_)
            go_simp
            refine hK.out _ _ (.inr HXS.out) ?_
            clear hK K
            try simp only [Act.put, zA, zB, zC]
            refine wpE_done (by kernel_rfl) ?_
            go_wp2_with fail
            go_meet
            exact ⟨rfl, rfl, HXS.out⟩
          case rest =>
            obtain ⟨rfl, rfl, hx6⟩ := hcut
            have J6 := qh (J3.out.more hx6)
            clear hx6 HPL HCO T0 J3
            have d1 := J6.out.told (cellOf ZO.out (i := 1) (v := .int .i64 c.a) rfl)
            have d2 := J6.out.told (cellOf ZO.out (i := 2) (v := .int .i64 c.b) rfl)
            have d3 := J6.out.told (cellOf ZO.out (i := 3) (v := .int .i64 c.c) rfl)
            have d4 := J6.out.told (cellOf ZO.out (i := 4) (v := .string c.s) rfl)
            rcases HWV.out with e3 | e3 | e3
            · obtain ⟨er, T', H', hst3, hlen3, htold, rfl, pd3, -⟩ := Insert_both HST2.out (by have := HH2.out; omega) c.a c.b c.c
              have hord := ord_ins HST2.out htold hst3 HK1.out HK2.out HOK.out
              have hp := movedIf_at (er := er) (f := insP c.a c.b 1) HK1.out
              have hq := movedIf_at (er := er) (f := insP c.a c.b 1) HK2.out
              obtain ⟨H', hH'⟩ : ∃ h, movedIf er (insP c.a c.b 1) H2 = h := ⟨_, rfl⟩
              rw [hH'] at hst3 hlen3 pd3 hp hq
              obtain ⟨p, hpp⟩ : ∃ p, newP er (insP c.a c.b 1) an aat = p := ⟨_, rfl⟩
              obtain ⟨q, hqq⟩ : ∃ q, newP er (insP c.a c.b 1) bn bat = q := ⟨_, rfl⟩
              rw [hpp] at hp hord
              rw [hqq] at hq hord
              clear htold hpp hqq hH'
              have HST3 := qh hst3
              have HL3 := qh hlen3
              have PD3 := qh pd3
              have HORD := qh hord
              have HP := qh hp
              have HQ := qh hq
              clear hst3 hlen3 pd3 hord hp hq
              subst e3
              go_upto_region 19 with (go_at_call 25; refine (J6.out.live_ (v := .int .i64 er) (T' := T') (H' := H') fun own ptr tb hv hb h1 _ => PD3.out _ own ptr lb tb hv hb h1).mono ?_; rintro e u7 ⟨rfl, hj7⟩; have J7 := qh hj7; clear hj7)
              have hlen3 := HL3.out
              have hord := HORD.out
              have hp := HP.out
              have hq := HQ.out
              clear HORD HP HQ HL3 PD3 J6
              obtain ⟨pn, pa⟩ := p
              obtain ⟨qn, qa⟩ := q
              dsimp only at hp hq
              obtain ⟨hok', hcmp, hcnt⟩ := hord
              dsimp only at hok' hcmp
              obtain ⟨own, ptr, tb, hv, hb, hLV⟩ := J7.out.live
              have hl7 : H'.length ≤ 100000 := by have := HH2.out; omega
              have hh1 := lHeld_any hLV (k1 : Int) hl7
              unfold heldV at hh1
              rw [heldAt_of hp rfl] at hh1
              have HH1 := qh hh1
              have HHB := qh (fun (u : World) (x : Ext u7 u) => (by
                have h9 := lHeld_any (hLV.ext x) (k2 : Int) hl7
                unfold heldV at h9
                rw [heldAt_of hq rfl] at h9
                exact h9 : Calls Tryz.prog 12 #[.pointer (some ⟨lb, 0, none⟩), .int .i64 (k2 : Int)] u (RTwo (.agg #[.int .i64 qn, .int .i64 qa]) (.bool true) u)))
              obtain ⟨zz, hzz⟩ : ∃ z, T'.cmp pn pa qn qa = z := ⟨_, rfl⟩
              obtain ⟨⟨d', hw'⟩, ha'⟩ := HST3.out.good
              have HCMP := qh (fun (u : World) (x : Ext u7 u) => (by
                have hLu := hLV.ext x
                have h9 := Cmp_any (hLu.tree.tat hLu.ownd) hw' ha' pn pa qn qa
                rw [hzz, hok'] at h9
                exact h9 : Calls Tryz.prog 20 #[.pointer (some ⟨tb, 0, none⟩), .agg #[.int .i64 pn, .int .i64 pa], .agg #[.int .i64 qn, .int .i64 qa]] u (RTwo (.int .i64 zz) (.bool true) u)))
              have hz1 := cmp_three T' pn pa qn qa
              have hz2 := cmp_three T an aat bn bat
              have HZZ : Hid (IntKind.i64.wrap (zz * zc) = zz * zc ∧ 0 ≤ zz * zc) := qh (by
                rw [hzz] at hz1 hcmp
                rw [HZC.out] at hz2 hcmp
                refine ⟨IntWalk.i64_in _ ?_, hcmp⟩
                have h1 : zz = -1 ∨ zz = 0 ∨ zz = 1 := by omega
                rcases h1 with h1 | h1 | h1 <;> subst h1 <;> omega)
              have HCNT : Hid (∀ u : World, Ext u7 u → Calls Tryz.prog 24 #[.pointer (some ⟨tb, 0, none⟩)] u (RSame (.int .i64 T.count) u)) := qh (fun u x => by
                have h9 := Count_any (hLV.ext x).tree
                rw [hcnt] at h9
                exact h9)
              have LVX := qh (fun (u : World) (x : Ext u7 u) => (hLV.ext x).ptr_)
              clear hp hq hok' hcmp hcnt hLV hl7 hh1 hzz hw' ha' hz1 hz2 d1 d2 d3 d4
              go_wp2_with fail
              refine HH1.out.mono ?_
              rintro e w8 ⟨rfl, hx8⟩
              have xa8 := hx8.alloc (.cells #[.int .i64 pn, .int .i64 pa] 43)
              have b8 := heap_alloc_new w8 (.cells #[.int .i64 pn, .int .i64 pa] 43)
              obtain ⟨wa, hwa⟩ : ∃ W : World, W = w8.alloc (.cells #[.int .i64 pn, .int .i64 pa] 43) := ⟨_, rfl⟩
              obtain ⟨ba, hba⟩ : ∃ b, w8.heap.size = b := ⟨_, rfl⟩
              rw [← hwa] at xa8 b8
              rw [hba] at b8
              have XA := qh xa8
              have BA8 := qh b8
              have HWA := qh hwa
              have HBA := qh hba
              clear hx8 xa8 b8 hwa hba
              go_upto_region 20 with fail
              rw [← HWA.out, HBA.out]
              clear HWA HBA
              go_wp2_with fail
              refine (HHB.out _ XA.out).mono ?_
              rintro e w9 ⟨rfl, hx9⟩
              have xb9 := hx9.alloc (.cells #[.int .i64 qn, .int .i64 qa] 43)
              have b9 := heap_alloc_new w9 (.cells #[.int .i64 qn, .int .i64 qa] 43)
              obtain ⟨wb, hwb⟩ : ∃ W : World, W = w9.alloc (.cells #[.int .i64 qn, .int .i64 qa] 43) := ⟨_, rfl⟩
              obtain ⟨bb, hbb⟩ : ∃ b, w9.heap.size = b := ⟨_, rfl⟩
              rw [← hwb] at xb9 b9
              rw [hbb] at b9
              have XB := qh (XA.out.trans xb9)
              have BA9 := qh (xb9.block BA8.out)
              have BB9 := qh b9
              have HWB := qh hwb
              have HBB := qh hbb
              clear hx9 xb9 b9 hwb hbb BA8
              go_upto_region 21 with fail
              rw [← HWB.out, HBB.out]
              clear HWB HBB
              have HCX := qh (fun (u : ExtOf wb) => inExt (u := u) (HCMP.out _ (XB.out.trans u.ext)))
              have r0 : ∀ u : ExtOf wb, u.val.cell? ⟨lb, 0, none⟩ = some (.pointer (some ⟨tb, 0, none⟩)) := fun u => LVX.out _ (XB.out.trans u.ext)
              have r1 : ∀ u : ExtOf wb, u.val.cell? ⟨ba, 0, none⟩ = some (.int .i64 pn) := fun u => u.ext.cell (cellOf BA9.out rfl)
              have r2 : ∀ u : ExtOf wb, u.val.cell? ⟨ba, 1, none⟩ = some (.int .i64 pa) := fun u => u.ext.cell (cellOf BA9.out rfl)
              have r3 : ∀ u : ExtOf wb, u.val.cell? ⟨bb, 0, none⟩ = some (.int .i64 qn) := fun u => u.ext.cell (cellOf BB9.out rfl)
              have r4 : ∀ u : ExtOf wb, u.val.cell? ⟨bb, 1, none⟩ = some (.int .i64 qa) := fun u => u.ext.cell (cellOf BB9.out rfl)
              refine wp_region_ext (by kernel_rfl) (by kernel_rfl) ?_
              repeat (go_big_quiet_step ((go_at_call 20; exact HCX.out _)))
              refine wpQuiet_nil ?_
              rintro _ ⟨u, rfl⟩
              have hx9 := XB.out.trans u.ext
              obtain ⟨wq, hwq⟩ : ∃ W, u.val = W := ⟨_, rfl⟩
              rw [hwq] at hx9 ⊢
              clear r0 r1 r2 r3 r4 hwq HCX HCMP
              clear u
              have XU := qh hx9
              have t0 := LVX.out _ hx9
              clear hx9
              obtain ⟨ew, eg⟩ := HZZ.out
              obtain ⟨zq, hzq⟩ : ∃ z, zz * zc = z := ⟨_, rfl⟩
              rw [hzq] at ew eg
              have eg1 : decide (0 ≤ zq) = true := decide_eq_true eg
              clear HZZ HZC
              go_wp2_with (first
                | (go_at_call 24; refine (HCNT.out _ XU.out).mono ?_; rintro e w2 ⟨rfl, rfl⟩)
                | (go_at_call 7; refine (awake11_any _).mono ?_; rintro e w4 ⟨rfl, hx4⟩))
              go_ret
              exact ⟨rfl, (XC.out.trans (J7.out.ext.trans XU.out)).trans hx4⟩
            · obtain ⟨er, T', H', hst3, hlen3, htold, rfl, pd3, -⟩ := Remove_both HST2.out (by have := HH2.out; omega) c.a
              have hord := ord_rem HST2.out htold hst3 HK1.out HK2.out HOK.out
              have hp := movedIf_at (er := er) (f := remP T' c.a (T.up c.a) (T.idx c.a)) HK1.out
              have hq := movedIf_at (er := er) (f := remP T' c.a (T.up c.a) (T.idx c.a)) HK2.out
              obtain ⟨H', hH'⟩ : ∃ h, movedIf er (remP T' c.a (T.up c.a) (T.idx c.a)) H2 = h := ⟨_, rfl⟩
              rw [hH'] at hst3 hlen3 pd3 hp hq
              obtain ⟨p, hpp⟩ : ∃ p, newP er (remP T' c.a (T.up c.a) (T.idx c.a)) an aat = p := ⟨_, rfl⟩
              obtain ⟨q, hqq⟩ : ∃ q, newP er (remP T' c.a (T.up c.a) (T.idx c.a)) bn bat = q := ⟨_, rfl⟩
              rw [hpp] at hp hord
              rw [hqq] at hq hord
              clear htold hpp hqq hH'
              have HST3 := qh hst3
              have HL3 := qh hlen3
              have PD3 := qh pd3
              have HORD := qh hord
              have HP := qh hp
              have HQ := qh hq
              clear hst3 hlen3 pd3 hord hp hq
              subst e3
              go_upto_region 19 with (go_at_call 17; refine (J6.out.live_ (v := .int .i64 er) (T' := T') (H' := H') fun own ptr tb hv hb h1 _ => PD3.out _ own ptr lb tb hv hb h1).mono ?_; rintro e u7 ⟨rfl, hj7⟩; have J7 := qh hj7; clear hj7)
              have hlen3 := HL3.out
              have hord := HORD.out
              have hp := HP.out
              have hq := HQ.out
              clear HORD HP HQ HL3 PD3 J6
              obtain ⟨pn, pa⟩ := p
              obtain ⟨qn, qa⟩ := q
              dsimp only at hp hq
              obtain ⟨hok', hcmp, hcnt⟩ := hord
              dsimp only at hok' hcmp
              obtain ⟨own, ptr, tb, hv, hb, hLV⟩ := J7.out.live
              have hl7 : H'.length ≤ 100000 := by have := HH2.out; omega
              have hh1 := lHeld_any hLV (k1 : Int) hl7
              unfold heldV at hh1
              rw [heldAt_of hp rfl] at hh1
              have HH1 := qh hh1
              have HHB := qh (fun (u : World) (x : Ext u7 u) => (by
                have h9 := lHeld_any (hLV.ext x) (k2 : Int) hl7
                unfold heldV at h9
                rw [heldAt_of hq rfl] at h9
                exact h9 : Calls Tryz.prog 12 #[.pointer (some ⟨lb, 0, none⟩), .int .i64 (k2 : Int)] u (RTwo (.agg #[.int .i64 qn, .int .i64 qa]) (.bool true) u)))
              obtain ⟨zz, hzz⟩ : ∃ z, T'.cmp pn pa qn qa = z := ⟨_, rfl⟩
              obtain ⟨⟨d', hw'⟩, ha'⟩ := HST3.out.good
              have HCMP := qh (fun (u : World) (x : Ext u7 u) => (by
                have hLu := hLV.ext x
                have h9 := Cmp_any (hLu.tree.tat hLu.ownd) hw' ha' pn pa qn qa
                rw [hzz, hok'] at h9
                exact h9 : Calls Tryz.prog 20 #[.pointer (some ⟨tb, 0, none⟩), .agg #[.int .i64 pn, .int .i64 pa], .agg #[.int .i64 qn, .int .i64 qa]] u (RTwo (.int .i64 zz) (.bool true) u)))
              have hz1 := cmp_three T' pn pa qn qa
              have hz2 := cmp_three T an aat bn bat
              have HZZ : Hid (IntKind.i64.wrap (zz * zc) = zz * zc ∧ 0 ≤ zz * zc) := qh (by
                rw [hzz] at hz1 hcmp
                rw [HZC.out] at hz2 hcmp
                refine ⟨IntWalk.i64_in _ ?_, hcmp⟩
                have h1 : zz = -1 ∨ zz = 0 ∨ zz = 1 := by omega
                rcases h1 with h1 | h1 | h1 <;> subst h1 <;> omega)
              have HCNT : Hid (∀ u : World, Ext u7 u → Calls Tryz.prog 24 #[.pointer (some ⟨tb, 0, none⟩)] u (RSame (.int .i64 T.count) u)) := qh (fun u x => by
                have h9 := Count_any (hLV.ext x).tree
                rw [hcnt] at h9
                exact h9)
              have LVX := qh (fun (u : World) (x : Ext u7 u) => (hLV.ext x).ptr_)
              clear hp hq hok' hcmp hcnt hLV hl7 hh1 hzz hw' ha' hz1 hz2 d1 d2 d3 d4
              go_wp2_with fail
              refine HH1.out.mono ?_
              rintro e w8 ⟨rfl, hx8⟩
              have xa8 := hx8.alloc (.cells #[.int .i64 pn, .int .i64 pa] 43)
              have b8 := heap_alloc_new w8 (.cells #[.int .i64 pn, .int .i64 pa] 43)
              obtain ⟨wa, hwa⟩ : ∃ W : World, W = w8.alloc (.cells #[.int .i64 pn, .int .i64 pa] 43) := ⟨_, rfl⟩
              obtain ⟨ba, hba⟩ : ∃ b, w8.heap.size = b := ⟨_, rfl⟩
              rw [← hwa] at xa8 b8
              rw [hba] at b8
              have XA := qh xa8
              have BA8 := qh b8
              have HWA := qh hwa
              have HBA := qh hba
              clear hx8 xa8 b8 hwa hba
              go_upto_region 20 with fail
              rw [← HWA.out, HBA.out]
              clear HWA HBA
              go_wp2_with fail
              refine (HHB.out _ XA.out).mono ?_
              rintro e w9 ⟨rfl, hx9⟩
              have xb9 := hx9.alloc (.cells #[.int .i64 qn, .int .i64 qa] 43)
              have b9 := heap_alloc_new w9 (.cells #[.int .i64 qn, .int .i64 qa] 43)
              obtain ⟨wb, hwb⟩ : ∃ W : World, W = w9.alloc (.cells #[.int .i64 qn, .int .i64 qa] 43) := ⟨_, rfl⟩
              obtain ⟨bb, hbb⟩ : ∃ b, w9.heap.size = b := ⟨_, rfl⟩
              rw [← hwb] at xb9 b9
              rw [hbb] at b9
              have XB := qh (XA.out.trans xb9)
              have BA9 := qh (xb9.block BA8.out)
              have BB9 := qh b9
              have HWB := qh hwb
              have HBB := qh hbb
              clear hx9 xb9 b9 hwb hbb BA8
              go_upto_region 21 with fail
              rw [← HWB.out, HBB.out]
              clear HWB HBB
              have HCX := qh (fun (u : ExtOf wb) => inExt (u := u) (HCMP.out _ (XB.out.trans u.ext)))
              have r0 : ∀ u : ExtOf wb, u.val.cell? ⟨lb, 0, none⟩ = some (.pointer (some ⟨tb, 0, none⟩)) := fun u => LVX.out _ (XB.out.trans u.ext)
              have r1 : ∀ u : ExtOf wb, u.val.cell? ⟨ba, 0, none⟩ = some (.int .i64 pn) := fun u => u.ext.cell (cellOf BA9.out rfl)
              have r2 : ∀ u : ExtOf wb, u.val.cell? ⟨ba, 1, none⟩ = some (.int .i64 pa) := fun u => u.ext.cell (cellOf BA9.out rfl)
              have r3 : ∀ u : ExtOf wb, u.val.cell? ⟨bb, 0, none⟩ = some (.int .i64 qn) := fun u => u.ext.cell (cellOf BB9.out rfl)
              have r4 : ∀ u : ExtOf wb, u.val.cell? ⟨bb, 1, none⟩ = some (.int .i64 qa) := fun u => u.ext.cell (cellOf BB9.out rfl)
              refine wp_region_ext (by kernel_rfl) (by kernel_rfl) ?_
              repeat (go_big_quiet_step ((go_at_call 20; exact HCX.out _)))
              refine wpQuiet_nil ?_
              rintro _ ⟨u, rfl⟩
              have hx9 := XB.out.trans u.ext
              obtain ⟨wq, hwq⟩ : ∃ W, u.val = W := ⟨_, rfl⟩
              rw [hwq] at hx9 ⊢
              clear r0 r1 r2 r3 r4 hwq HCX HCMP
              clear u
              have XU := qh hx9
              have t0 := LVX.out _ hx9
              clear hx9
              obtain ⟨ew, eg⟩ := HZZ.out
              obtain ⟨zq, hzq⟩ : ∃ z, zz * zc = z := ⟨_, rfl⟩
              rw [hzq] at ew eg
              have eg1 : decide (0 ≤ zq) = true := decide_eq_true eg
              clear HZZ HZC
              go_wp2_with (first
                | (go_at_call 24; refine (HCNT.out _ XU.out).mono ?_; rintro e w2 ⟨rfl, rfl⟩)
                | (go_at_call 7; refine (awake11_any _).mono ?_; rintro e w4 ⟨rfl, hx4⟩))
              go_ret
              exact ⟨rfl, (XC.out.trans (J7.out.ext.trans XU.out)).trans hx4⟩
            · obtain ⟨er, T', H', hst3, hlen3, htold, pd3, -⟩ := Replace_both HST2.out (by have := HH2.out; omega) c.a c.b c.c c.s (by have := HLC.out.1; omega)
              obtain ⟨p, q, hp, hq, hord, hsz⟩ := ord_rep HST2.out hst3 htold HK1.out HK2.out HOK.out
              have HSZ0 := qh hsz
              clear htold hsz
              have HST3 := qh hst3
              have HL3 := qh hlen3
              have PD3 := qh pd3
              have HORD := qh hord
              have HP := qh hp
              have HQ := qh hq
              clear hst3 hlen3 pd3 hord hp hq
              subst e3
              go_upto_region 19 with (go_at_call 26; refine (J6.out.live_ (v := .int .i64 er) (T' := T') (H' := H') fun own ptr tb hv hb h1 _ => PD3.out _ own ptr lb tb hv hb h1).mono ?_; rintro e u7 ⟨rfl, hj7⟩; have J7 := qh hj7; clear hj7)
              have hlen3 := HL3.out
              have hord := HORD.out
              have hp := HP.out
              have hq := HQ.out
              have hsz := HSZ0.out
              clear HSZ0
              clear HORD HP HQ HL3 PD3 J6
              obtain ⟨pn, pa⟩ := p
              obtain ⟨qn, qa⟩ := q
              dsimp only at hp hq
              obtain ⟨hok', hcmp, hcnt⟩ := hord
              dsimp only at hok' hcmp
              obtain ⟨own, ptr, tb, hv, hb, hLV⟩ := J7.out.live
              have hl7 : H'.length ≤ 100000 := by have := HH2.out; omega
              have hh1 := lHeld_any hLV (k1 : Int) hl7
              unfold heldV at hh1
              rw [heldAt_of hp rfl] at hh1
              have HH1 := qh hh1
              have HHB := qh (fun (u : World) (x : Ext u7 u) => (by
                have h9 := lHeld_any (hLV.ext x) (k2 : Int) hl7
                unfold heldV at h9
                rw [heldAt_of hq rfl] at h9
                exact h9 : Calls Tryz.prog 12 #[.pointer (some ⟨lb, 0, none⟩), .int .i64 (k2 : Int)] u (RTwo (.agg #[.int .i64 qn, .int .i64 qa]) (.bool true) u)))
              obtain ⟨zz, hzz⟩ : ∃ z, T'.cmp pn pa qn qa = z := ⟨_, rfl⟩
              obtain ⟨⟨d', hw'⟩, ha'⟩ := HST3.out.good
              have HCMP := qh (fun (u : World) (x : Ext u7 u) => (by
                have hLu := hLV.ext x
                have h9 := Cmp_any (hLu.tree.tat hLu.ownd) hw' ha' pn pa qn qa
                rw [hzz, hok'] at h9
                exact h9 : Calls Tryz.prog 20 #[.pointer (some ⟨tb, 0, none⟩), .agg #[.int .i64 pn, .int .i64 pa], .agg #[.int .i64 qn, .int .i64 qa]] u (RTwo (.int .i64 zz) (.bool true) u)))
              have hz1 := cmp_three T' pn pa qn qa
              have hz2 := cmp_three T an aat bn bat
              have HZZ : Hid (IntKind.i64.wrap (zz * zc) = zz * zc ∧ 0 ≤ zz * zc) := qh (by
                rw [hzz] at hz1 hcmp
                rw [HZC.out] at hz2 hcmp
                refine ⟨IntWalk.i64_in _ ?_, hcmp⟩
                have h1 : zz = -1 ∨ zz = 0 ∨ zz = 1 := by omega
                rcases h1 with h1 | h1 | h1 <;> subst h1 <;> omega)
              have HCNT : Hid (∀ u : World, Ext u7 u → Calls Tryz.prog 24 #[.pointer (some ⟨tb, 0, none⟩)] u (RSame (.int .i64 T.count) u)) := qh (fun u x => by
                have h9 := Count_any (hLV.ext x).tree
                rw [hcnt] at h9
                exact h9)
              have LVX := qh (fun (u : World) (x : Ext u7 u) => (hLV.ext x).ptr_)
              obtain ⟨rd, hrd, _, _⟩ := hw'.root
              have HSZ : Hid ((T'.plain 0).size = m) := qh (hsz.trans HM.out)
              have HPL : Hid (∀ u : World, Ext u7 u → Calls Tryz.prog 23 #[.pointer (some ⟨tb, 0, none⟩), .int .i64 0] u (PlainIs (T'.plain 0) u)) := qh (fun u x => Plain_some (hLV.ext x).tree (hLV.ext x).ownd hw' ha' (i := 0) hrd)
              clear hsz hrd
              clear hp hq hok' hcmp hcnt hLV hl7 hh1 hzz hw' ha' hz1 hz2 d1 d2 d3 d4
              go_wp2_with fail
              refine HH1.out.mono ?_
              rintro e w8 ⟨rfl, hx8⟩
              have xa8 := hx8.alloc (.cells #[.int .i64 pn, .int .i64 pa] 43)
              have b8 := heap_alloc_new w8 (.cells #[.int .i64 pn, .int .i64 pa] 43)
              obtain ⟨wa, hwa⟩ : ∃ W : World, W = w8.alloc (.cells #[.int .i64 pn, .int .i64 pa] 43) := ⟨_, rfl⟩
              obtain ⟨ba, hba⟩ : ∃ b, w8.heap.size = b := ⟨_, rfl⟩
              rw [← hwa] at xa8 b8
              rw [hba] at b8
              have XA := qh xa8
              have BA8 := qh b8
              have HWA := qh hwa
              have HBA := qh hba
              clear hx8 xa8 b8 hwa hba
              go_upto_region 20 with fail
              rw [← HWA.out, HBA.out]
              clear HWA HBA
              go_wp2_with fail
              refine (HHB.out _ XA.out).mono ?_
              rintro e w9 ⟨rfl, hx9⟩
              have xb9 := hx9.alloc (.cells #[.int .i64 qn, .int .i64 qa] 43)
              have b9 := heap_alloc_new w9 (.cells #[.int .i64 qn, .int .i64 qa] 43)
              obtain ⟨wb, hwb⟩ : ∃ W : World, W = w9.alloc (.cells #[.int .i64 qn, .int .i64 qa] 43) := ⟨_, rfl⟩
              obtain ⟨bb, hbb⟩ : ∃ b, w9.heap.size = b := ⟨_, rfl⟩
              rw [← hwb] at xb9 b9
              rw [hbb] at b9
              have XB := qh (XA.out.trans xb9)
              have BA9 := qh (xb9.block BA8.out)
              have BB9 := qh b9
              have HWB := qh hwb
              have HBB := qh hbb
              clear hx9 xb9 b9 hwb hbb BA8
              go_upto_region 21 with fail
              rw [← HWB.out, HBB.out]
              clear HWB HBB
              have HCX := qh (fun (u : ExtOf wb) => inExt (u := u) (HCMP.out _ (XB.out.trans u.ext)))
              have r0 : ∀ u : ExtOf wb, u.val.cell? ⟨lb, 0, none⟩ = some (.pointer (some ⟨tb, 0, none⟩)) := fun u => LVX.out _ (XB.out.trans u.ext)
              have r1 : ∀ u : ExtOf wb, u.val.cell? ⟨ba, 0, none⟩ = some (.int .i64 pn) := fun u => u.ext.cell (cellOf BA9.out rfl)
              have r2 : ∀ u : ExtOf wb, u.val.cell? ⟨ba, 1, none⟩ = some (.int .i64 pa) := fun u => u.ext.cell (cellOf BA9.out rfl)
              have r3 : ∀ u : ExtOf wb, u.val.cell? ⟨bb, 0, none⟩ = some (.int .i64 qn) := fun u => u.ext.cell (cellOf BB9.out rfl)
              have r4 : ∀ u : ExtOf wb, u.val.cell? ⟨bb, 1, none⟩ = some (.int .i64 qa) := fun u => u.ext.cell (cellOf BB9.out rfl)
              refine wp_region_ext (by kernel_rfl) (by kernel_rfl) ?_
              repeat (go_big_quiet_step ((go_at_call 20; exact HCX.out _)))
              refine wpQuiet_nil ?_
              rintro _ ⟨u, rfl⟩
              have hx9 := XB.out.trans u.ext
              obtain ⟨wq, hwq⟩ : ∃ W, u.val = W := ⟨_, rfl⟩
              rw [hwq] at hx9 ⊢
              clear r0 r1 r2 r3 r4 hwq HCX HCMP
              clear u
              have XU := qh hx9
              have t0 := LVX.out _ hx9
              clear hx9
              obtain ⟨ew, eg⟩ := HZZ.out
              obtain ⟨zq, hzq⟩ : ∃ z, zz * zc = z := ⟨_, rfl⟩
              rw [hzq] at ew eg
              have eg1 : decide (0 ≤ zq) = true := decide_eq_true eg
              clear HZZ HZC
              go_wp2_with (first
                | (go_at_call 24; refine (HCNT.out _ XU.out).mono ?_; rintro e w2 ⟨rfl, rfl⟩)
                | (go_at_call 23; refine (HPL.out _ XU.out).mono ?_; rintro e v1 ⟨pv, pg, rfl, hpn, hxp, hpg⟩; have HPN := qh (hpn.cells fun q y hq => (hpg q y hq).1); have XV := qh (XU.out.trans hxp); clear hpn hxp hpg t0)
                | (go_at_call 22; refine (Size_any (w0 := v1) _ _ _ (by have := HSZ.out; have := HM.out; have := HMS.out; omega) HPN.out (Ext.refl _)).mono ?_; rintro e v2 ⟨rfl, hxs⟩; have XW := qh (XV.out.trans hxs); clear hxs; rw [HSZ.out])
                | (go_at_call 7; refine (awake11_any _).mono ?_; rintro e w4 ⟨rfl, hx4⟩))
              go_ret
              exact ⟨rfl, (XC.out.trans (J7.out.ext.trans XW.out)).trans hx4⟩
end Go.Proofs.YthgnbbbdcebjhaaGreat
namespace Go.Proofs.YthgnbbbdcebjhaaGreat
open Go Go.RowKit Go.BigFrame Go.WideShapes Go.ChangeShapes
theorem bytesCall11 : Tryz.prog.bytesOf 39 = 144 := by kernel_rfl
theorem keep_calls11z {H : Type} {enc : TypeId × Value → H} {w : World} {b0 base : Nat} {spare : Nat → Bool} {held : Bool} {v : Value} {d : DataW H} {p : List MemPlace}
    (hv : Value.okWide Tryz.prog w .any b0 22 v) (h : DataW.Trod enc Tryz.prog w base spare held 22 v d p) (hz : ∀ elems rest, d = .slice elems rest → (elems.length + rest.length) * Tryz.prog.bytesOf 39 ≤ reachBytes) : ∃ l, CallsRd w l v ∧ NilOk v ∧ l.length * 144 ≤ 140737488351232 := by
  obtain ⟨l, hl, hn⟩ := keep_calls11n hv h
  refine ⟨l, hl, hn, ?_⟩
  obtain ⟨ao, k, rfl, _⟩ := hl.len_of
  obtain ⟨fuel, h⟩ := h
  rcases DataW.trod_slice (cs := [.slice ao l.length k]) Tryz.underlying22 h with ⟨h0, _⟩ | ⟨a, len, cap, elems, rest, n, _, hc, hx, _, _, _, hlen, _, _⟩
  · simp only [List.cons.injEq, Value.slice.injEq] at h0
    omega
  · simp only [List.cons.injEq, Value.slice.injEq] at hc
    have h9 := hz _ _ (congrArg Prod.fst hx)
    simp only [List.length_map] at h9
    rw [bytesCall11] at h9
    unfold reachBytes at h9
    omega
end Go.Proofs.YthgnbbbdcebjhaaGreat
