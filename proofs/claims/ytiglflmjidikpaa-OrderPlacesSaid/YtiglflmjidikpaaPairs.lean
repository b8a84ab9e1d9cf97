/- Package dom beside quillworkref08: each call of a tree ends as the document's call does, and both trees behind it tell one tree. Conditions: texts of at most 100000 bytes, 60000 attributes, plain trees of at most 90000 nodes. -/
import Derived.Test.YtiglflmjidikpaaLawE
namespace Go.Proofs.Ytiglflmjidikpaa
open Go Go.RowKit Go.BigFrame
set_option linter.unusedVariables false
set_option linter.unusedSimpArgs false

/-- two results of a tree's call, and the tree behind it -/
def DTwo (own : Ow) (w : World) (tb : Nat) (x er : Int) (T' : Tr) (e : Ending) (w' : World) : Prop := e = .returned (.tuple #[.int .i64 x, .int .i64 er]) ∧ After own w tb T' w'
section
variable {w : World} {own : Ow} {ptr : Nat → Nat} {tb : Nat} {T : Tr}
theorem derr_same (hT : TreeAt w own ptr tb T) (hO : Owned own w) {er : Int} {e : Ending} {w' : World} (h : RVal (.int .i64 er) w e w') : ErrAfter own w tb er T e w' := ⟨h.1, After.same hT hO h.2⟩
theorem dtwo_same (hT : TreeAt w own ptr tb T) (hO : Owned own w) {x er : Int} {e : Ending} {w' : World} (h : RTwo (.int .i64 x) (.int .i64 er) w e w') : DTwo own w tb x er T e w' := ⟨h.1, After.same hT hO h.2⟩
end
variable {T : Tr}
theorem Text_pair (hG : GoodT T) (s : ByteArray) (hs : s.size ≤ 100000) : ∃ (x er : Int) (T' : Tr), GoodT T' ∧
    (∀ (w : World) (own : Ow) (ptr : Nat → Nat) (tb : Nat), TreeAt w own ptr tb T → Owned own w → Calls Try.prog 41 #[.pointer (some ⟨tb, 0, none⟩), .string s] w (DTwo own w tb x er T')) ∧
    (∀ (w : World) (F : Nat → Prop) (rb : Nat), RefOn w F rb T → Calls Try.prog 97 #[.pointer (some ⟨rb, 0, none⟩), .string s] w (RTwoAft F w rb x er T')) := by
  obtain ⟨⟨d, hw⟩, ha⟩ := hG
  by_cases h1 : 8192 < (anewB s).size
  · exact ⟨0, 10, T, ⟨⟨d, hw⟩, ha⟩, fun w own ptr tb hT hO => (Text_long tb s hs h1 w).mono fun e w' h => dtwo_same hT hO h, fun w F rb hR => rText_long s hs h1 hR⟩
  · by_cases h2 : 1 ≤ T.cap - T.count
    · refine ⟨T.newId, 0, _, ⟨⟨_, hw.put ⟨0, [], anewB s, [], -1⟩ rfl rfl (by show (0:Int) ≤ 0; decide) (by show (0:Int) ≤ 16; decide) (by omega) hw.newId_ne⟩, ha.put _ ⟨by simp, by show (anewB s).size ≤ 8192; omega⟩⟩, fun w own ptr tb hT hO => Text_ok hT hO hw s hs (by omega) h2, fun w F rb hR => rText_ok s hs (by omega) hR hw (by omega)⟩
    · exact ⟨0, 3, T, ⟨⟨d, hw⟩, ha⟩, fun w own ptr tb hT hO => (Text_full hT hO hw.small s hs (by omega) h2).mono fun e w' h => dtwo_same hT hO h, fun w F rb hR => rText_full s hs (by omega) hR hw (by omega)⟩
theorem Element_pair (hG : GoodT T) (tag : Int) (attrs : List (ByteArray × ByteArray)) (hl : attrs.length ≤ 60000) : ∃ (x er : Int) (T' : Tr), GoodT T' ∧
    (∀ (w : World) (own : Ow) (ptr : Nat → Nat) (tb : Nat) (av : Value), TreeAt w own ptr tb T → Owned own w → RowRd w 2 av attrs.length (attrCells attrs) → Calls Try.prog 44 #[.pointer (some ⟨tb, 0, none⟩), .int .i64 tag, av] w (DTwo own w tb x er T')) ∧
    (∀ (w : World) (F : Nat → Prop) (rb : Nat) (av : Value), RefOn w F rb T → RowRd w 2 av attrs.length (attrCells attrs) → Calls Try.prog 103 #[.pointer (some ⟨rb, 0, none⟩), .int .i64 tag, av] w (RTwoAft F w rb x er T')) := by
  obtain ⟨⟨d, hw⟩, ha⟩ := hG
  by_cases h1 : 1 ≤ tag ∧ tag ≤ 16
  · by_cases h2 : 1 ≤ T.cap - T.count
    · exact ⟨T.newId, 0, _, ⟨⟨_, hw.put ⟨tag, attrs, ByteArray.empty, [], -1⟩ rfl rfl (by show 0 ≤ tag; omega) h1.2 (by omega) hw.newId_ne⟩, ha.put _ ⟨hl, by simp⟩⟩, fun w own ptr tb av hT hO hr => Element_ok hT hO hw tag h1.1 h1.2 h2 hr hl, fun w F rb av hR hr => rElement_ok tag h1.1 h1.2 hr hl hR hw (by omega)⟩
    · exact ⟨0, 3, T, ⟨⟨d, hw⟩, ha⟩, fun w own ptr tb av hT hO hr => (Element_full hT hw.small tag h1.1 h1.2 h2 av).mono fun e w' h => dtwo_same hT hO h, fun w F rb av hR hr => rElement_full tag h1.1 h1.2 av hR hw (by omega)⟩
  · exact ⟨0, 1, T, ⟨⟨d, hw⟩, ha⟩, fun w own ptr tb av hT hO hr => (Element_arg tb tag h1 av w).mono fun e w' h => dtwo_same hT hO h, fun w F rb av hR hr => rElement_arg tag h1 av hR⟩
theorem Insert_pair (hG : GoodT T) (p at' k : Int) : ∃ (er : Int) (T' : Tr), GoodT T' ∧
    (∀ (w : World) (own : Ow) (ptr : Nat → Nat) (tb : Nat), TreeAt w own ptr tb T → Owned own w → Calls Try.prog 21 #[.pointer (some ⟨tb, 0, none⟩), .int .i64 p, .int .i64 at', .int .i64 k] w (ErrAfter own w tb er T')) ∧
    (∀ (w : World) (F : Nat → Prop) (rb : Nat), RefOn w F rb T → Calls Try.prog 98 #[.pointer (some ⟨rb, 0, none⟩), .int .i64 p, .int .i64 at', .int .i64 k] w (RErr F w rb er T')) := by
  obtain ⟨⟨d, hw⟩, ha⟩ := hG
  have hg : GoodT T := ⟨⟨d, hw⟩, ha⟩
  cases hp : T.get? p with
  | none => exact ⟨2, T, hg, fun w own ptr tb hT hO => (Insert_none hT (.inl hp)).mono fun e w' h => derr_same hT hO h, fun w F rb hR => rInsert_none hR (.inl hp)⟩
  | some pd =>
    cases hk : T.get? k with
    | none => exact ⟨2, T, hg, fun w own ptr tb hT hO => (Insert_none hT (.inr hk)).mono fun e w' h => derr_same hT hO h, fun w F rb hR => rInsert_none hR (.inr hk)⟩
    | some kd =>
      rcases tag_b (x := pd.tag) with ht | ht
      · exact ⟨6, T, hg, fun w own ptr tb hT hO => (Insert_kind hT hp hk ht).mono fun e w' h => derr_same hT hO h, fun w F rb hR => rInsert_kind hR hp hk ht⟩
      · by_cases harg : k = 0 ∨ 0 ≤ kd.parent ∨ at' < 0 ∨ (pd.kids.length : Int) < at'
        · exact ⟨1, T, hg, fun w own ptr tb hT hO => (Insert_arg hT hp hk ht harg).mono fun e w' h => derr_same hT hO h, fun w F rb hR => rInsert_arg hR hp hk ht harg⟩
        · have hp0 := hp
          have hk0' := hk
          obtain ⟨p', rfl, hpn⟩ := nat_of hp
          obtain ⟨k', rfl, hkn⟩ := nat_of hk
          obtain ⟨a', rfl⟩ := Int.eq_ofNat_of_zero_le (show 0 ≤ at' by omega)
          have hpar : kd.parent = -1 := by
            rcases hw.parent_cases hkn with h | ⟨q, qd, h1, _⟩
            · exact h
            · omega
          have hal : a' ≤ pd.kids.length := by omega
          have hk0 : k' ≠ 0 := by omega
          have hkl := hw.kids_len hpn
          have hwin := hw.win_within (o := (k' : Int)) (p' : Int) ⟨pd, Tr.get_of hpn⟩
          have hdd : (T.pathOf (p' : Int)).length = d p' := by
            have h := hw.path_rank p' ⟨pd, Tr.get_of hpn⟩
            unfold Tr.rank at h
            rw [Tr.get_of hpn] at h
            simp at h
            exact h
          cases hin : T.within p' k' with
          | true => exact ⟨5, T, hg, fun w own ptr tb hT hO => (Insert_loop hT hw hpn hkn ht hk0 hpar hal hin).mono fun e w' h => derr_same hT hO h, fun w F rb hR => rInsert_loop hR hw hp0 hk0' ht (by omega) (by omega) (by omega) (by omega) (by rw [hwin]; exact hin)⟩
          | false =>
            by_cases hdp : T.deep < (d p' : Int) + 1 + T.hgt 50 k'
            · exact ⟨4, T, hg, fun w own ptr tb hT hO => (Insert_deep hT hO hw hpn hkn ht hk0 hpar hal (by omega) hin hdp).mono fun e w' h => derr_same hT hO h, fun w F rb hR => rInsert_deep hR hw hp0 hk0' ht (by omega) (by omega) (by omega) (by omega) (by rw [hwin]; exact hin) (by rw [hdd]; exact hdp)⟩
            · refine ⟨0, T.link p' a' k' pd kd, ⟨⟨_, hw.link hpn hkn (by simpa using ht) hk0 hpar hin (by show (d p' : Int) + 1 + T.hgt 50 k' ≤ T.deep; omega)⟩, ?_⟩, fun w own ptr tb hT hO => Insert_ok hT hO hw hpn hkn ht hk0 hpar hal (by omega) hin (by omega) (insertsAt_any _ _), fun w F rb hR => ?_⟩
              · rw [Tr.link_eq]
                exact ha.set2 (show NdOk pd from ha _ _ hpn) (show NdOk kd from ha _ _ hkn)
              · have hpk : p' ≠ k' := fun e => by
                  subst e
                  have := hw.within_self hpn
                  rw [this] at hin
                  cases hin
                exact rInsert_ok hR hw hpn hkn ht hk0 (by omega) hal hpk (by rw [hwin]; exact hin) (by rw [hdd]; show (d p' : Int) + 1 + T.hgt 50 k' ≤ T.deep; omega)
theorem Remove_pair (hG : GoodT T) (id : Int) : ∃ (er : Int) (T' : Tr), GoodT T' ∧
    (∀ (w : World) (own : Ow) (ptr : Nat → Nat) (tb : Nat), TreeAt w own ptr tb T → Owned own w → Calls Try.prog 22 #[.pointer (some ⟨tb, 0, none⟩), .int .i64 id] w (ErrAfter own w tb er T')) ∧
    (∀ (w : World) (F : Nat → Prop) (rb : Nat), RefOn w F rb T → Calls Try.prog 99 #[.pointer (some ⟨rb, 0, none⟩), .int .i64 id] w (RErr F w rb er T')) := by
  obtain ⟨⟨d, hw⟩, ha⟩ := hG
  have hg : GoodT T := ⟨⟨d, hw⟩, ha⟩
  cases hi : T.get? id with
  | none => exact ⟨2, T, hg, fun w own ptr tb hT hO => (Remove_none hT hi).mono fun e w' h => derr_same hT hO h, fun w F rb hR => rRemove_none hR hi⟩
  | some nd =>
    obtain ⟨i, rfl, hn⟩ := nat_of hi
    rcases hw.parent_cases hn with h | ⟨p, pd, h1, h2, h3, h4⟩
    · exact ⟨1, T, hg, fun w own ptr tb hT hO => (Remove_root hT hi (by omega)).mono fun e w' h => derr_same hT hO h, fun w F rb hR => rRemove_root hR hi (by omega)⟩
    · have := hw.kids_len h2
      exact ⟨0, _, ⟨⟨_, hw.unlink h2 hn h1⟩, ha.set2 (show NdOk pd from ha _ _ h2) (show NdOk nd from ha _ _ hn)⟩, fun w own ptr tb hT hO => Remove_ok hT hO h2 hn h1 h4 (by omega) h3, fun w F rb hR => rRemove_ok hR hw h2 hn h1 h3 h4⟩
theorem Drop_pair (hG : GoodT T) (id : Int) : ∃ (er : Int) (T' : Tr), GoodT T' ∧
    (∀ (w : World) (own : Ow) (ptr : Nat → Nat) (tb : Nat), TreeAt w own ptr tb T → Owned own w → Calls Try.prog 25 #[.pointer (some ⟨tb, 0, none⟩), .int .i64 id] w (ErrAfter own w tb er T')) ∧
    (∀ (w : World) (F : Nat → Prop) (rb : Nat), RefOn w F rb T → Calls Try.prog 100 #[.pointer (some ⟨rb, 0, none⟩), .int .i64 id] w (RErr F w rb er T')) := by
  obtain ⟨⟨d, hw⟩, ha⟩ := hG
  have hg : GoodT T := ⟨⟨d, hw⟩, ha⟩
  cases hi : T.get? id with
  | none => exact ⟨2, T, hg, fun w own ptr tb hT hO => (Drop_none hT hO hi).mono fun e w' h => derr_same hT hO h, fun w F rb hR => rDrop_none hR hi⟩
  | some nd =>
    by_cases harg : id = 0 ∨ 0 ≤ nd.parent
    · exact ⟨1, T, hg, fun w own ptr tb hT hO => (Drop_arg hT hO hi harg).mono fun e w' h => derr_same hT hO h, fun w F rb hR => rDrop_arg hR hi harg⟩
    · obtain ⟨i, rfl, hn⟩ := nat_of hi
      have hp : nd.parent = -1 := by
        rcases hw.parent_cases hn with h | ⟨p, pd, h1, _⟩
        · exact h
        · omega
      exact ⟨0, _, ⟨⟨_, hw.rid hn hp (by omega)⟩, ha.rid _⟩, fun w own ptr tb hT hO => Drop_ok hT hO hw hn (by omega) hp, fun w F rb hR => rDrop_ok hR hw hn (by omega) hp⟩
theorem SetAttrs_pair (hG : GoodT T) (id : Int) (attrs : List (ByteArray × ByteArray)) (hl : attrs.length ≤ 60000) : ∃ (er : Int) (T' : Tr), GoodT T' ∧
    (∀ (w : World) (own : Ow) (ptr : Nat → Nat) (tb : Nat) (av : Value), TreeAt w own ptr tb T → Owned own w → RowRd w 2 av attrs.length (attrCells attrs) → Calls Try.prog 24 #[.pointer (some ⟨tb, 0, none⟩), .int .i64 id, av] w (ErrAfter own w tb er T')) ∧
    (∀ (w : World) (F : Nat → Prop) (rb : Nat) (tag : Int) (s : ByteArray) (av : Value), RefOn w F rb T → RowRd w 2 av attrs.length (attrCells attrs) → Calls Try.prog 101 #[.pointer (some ⟨rb, 0, none⟩), .int .i64 0, .int .i64 id, .int .i64 tag, .string s, av] w (RErr F w rb er T')) := by
  obtain ⟨⟨d, hw⟩, ha⟩ := hG
  have hg : GoodT T := ⟨⟨d, hw⟩, ha⟩
  cases hi : T.get? id with
  | none => exact ⟨2, T, hg, fun w own ptr tb av hT hO hr => (SetAttrs_none hT hi av).mono fun e w' h => derr_same hT hO h, fun w F rb tag s av hR hr => rSet_none hR hi 0 tag s av⟩
  | some nd =>
    rcases tag_b (x := nd.tag) with ht | ht
    · exact ⟨6, T, hg, fun w own ptr tb av hT hO hr => (SetAttrs_kind hT hi ht av).mono fun e w' h => derr_same hT hO h, fun w F rb tag s av hR hr => rSet_kind hR hi 0 tag s av (by rw [ht]; rfl)⟩
    · have hi0 := hi
      obtain ⟨i, rfl, hn⟩ := nat_of hi
      have hx := hw.text i nd hn
      exact ⟨0, T.setAt i { nd with attrs := attrs }, ⟨⟨_, hw.setAt (nd' := { nd with attrs := attrs }) hn rfl rfl hx.1 hx.2.1 (fun h => h) (fun _ => rfl)⟩, ha.setAt ⟨hl, (ha _ _ hn).2⟩⟩, fun w own ptr tb av hT hO hr => SetAttrs_ok hT hO hn ht hr hl, fun w F rb tag s av hR hr => rSet_attrs hR hi0 ht tag s hr hl⟩
theorem SetText_pair (hG : GoodT T) (id : Int) (s : ByteArray) (hs : s.size ≤ 100000) : ∃ (er : Int) (T' : Tr), GoodT T' ∧
    (∀ (w : World) (own : Ow) (ptr : Nat → Nat) (tb : Nat), TreeAt w own ptr tb T → Owned own w → Calls Try.prog 23 #[.pointer (some ⟨tb, 0, none⟩), .int .i64 id, .string s] w (ErrAfter own w tb er T')) ∧
    (∀ (w : World) (F : Nat → Prop) (rb : Nat) (tag : Int) (av : Value), RefOn w F rb T → Calls Try.prog 101 #[.pointer (some ⟨rb, 0, none⟩), .int .i64 1, .int .i64 id, .int .i64 tag, .string s, av] w (RErr F w rb er T')) := by
  obtain ⟨⟨d, hw⟩, ha⟩ := hG
  have hg : GoodT T := ⟨⟨d, hw⟩, ha⟩
  cases hi : T.get? id with
  | none => exact ⟨2, T, hg, fun w own ptr tb hT hO => (SetText_none hT hO hi s hs).mono fun e w' h => derr_same hT hO h, fun w F rb tag av hR => rSet_none hR hi 1 tag s av⟩
  | some nd =>
    by_cases ht : nd.tag = 0
    · have htb : (nd.tag == 0) = true := by simp [ht]
      by_cases hl : 8192 < (anewB s).size
      · exact ⟨10, T, hg, fun w own ptr tb hT hO => (SetText_long hT hO hi (by simp [ht]) s hs hl).mono fun e w' h => derr_same hT hO h, fun w F rb tag av hR => rSet_long hR hi htb tag s av hs hl⟩
      · have hi0 := hi
        obtain ⟨i, rfl, hn⟩ := nat_of hi
        have hx := hw.text i nd hn
        exact ⟨0, T.setAt i { nd with text := anewB s }, ⟨⟨_, hw.setAt (nd' := { nd with text := anewB s }) hn rfl rfl hx.1 hx.2.1 (fun h => h) (fun _ => rfl)⟩, ha.setAt ⟨(ha _ _ hn).1, by show (anewB s).size ≤ 8192; omega⟩⟩, fun w own ptr tb hT hO => SetText_ok hT hO hn (by simp [ht]) s hs (by omega), fun w F rb tag av hR => rSet_text hR hi0 htb tag s av hs (by omega)⟩
    · have htb : (nd.tag == 0) = false := by simpa using ht
      exact ⟨6, T, hg, fun w own ptr tb hT hO => (SetText_kind hT hO hi (by simpa using ht) s hs).mono fun e w' h => derr_same hT hO h, fun w F rb tag av hR => rSet_kind hR hi 1 tag s av (by rw [htb]; rfl)⟩
theorem SetTag_pair (hG : GoodT T) (id tag : Int) : ∃ (er : Int) (T' : Tr), GoodT T' ∧
    (∀ (w : World) (own : Ow) (ptr : Nat → Nat) (tb : Nat), TreeAt w own ptr tb T → Owned own w → Calls Try.prog 29 #[.pointer (some ⟨tb, 0, none⟩), .int .i64 id, .int .i64 tag] w (ErrAfter own w tb er T')) ∧
    (∀ (w : World) (F : Nat → Prop) (rb : Nat) (s : ByteArray) (av : Value), RefOn w F rb T → Calls Try.prog 101 #[.pointer (some ⟨rb, 0, none⟩), .int .i64 2, .int .i64 id, .int .i64 tag, .string s, av] w (RErr F w rb er T')) := by
  obtain ⟨⟨d, hw⟩, ha⟩ := hG
  have hg : GoodT T := ⟨⟨d, hw⟩, ha⟩
  cases hi : T.get? id with
  | none => exact ⟨2, T, hg, fun w own ptr tb hT hO => (SetTag_none hT hi tag).mono fun e w' h => derr_same hT hO h, fun w F rb s av hR => rSet_none hR hi 2 tag s av⟩
  | some nd =>
    rcases tag_b (x := nd.tag) with ht | ht
    · exact ⟨6, T, hg, fun w own ptr tb hT hO => (SetTag_kind hT hi ht tag).mono fun e w' h => derr_same hT hO h, fun w F rb s av hR => rSet_kind hR hi 2 tag s av (by rw [ht]; rfl)⟩
    · by_cases harg : ¬ (1 ≤ tag ∧ tag ≤ 16) ∨ id = 0
      · refine ⟨1, T, hg, fun w own ptr tb hT hO => (SetTag_arg hT hi ht tag harg).mono fun e w' h => derr_same hT hO h, fun w F rb s av hR => ?_⟩
        by_cases h1 : tag < 1
        · exact rSet_tag_lo hR hi ht tag s av h1
        · by_cases h2 : 16 < tag
          · exact rSet_tag_hi hR hi ht tag s av (by omega) h2
          · exact rSet_tag_host hR hi ht tag s av (by omega) (by omega) (by omega)
      · have hi0 := hi
        obtain ⟨i, rfl, hn⟩ := nat_of hi
        have hx := hw.text i nd hn
        exact ⟨0, T.setAt i { nd with tag := tag }, ⟨⟨_, hw.setAt (nd' := { nd with tag := tag }) hn rfl rfl (by show 0 ≤ tag; omega) (by show tag ≤ 16; omega) (fun h => by have h' : tag = 0 := h; omega) (fun h => by omega)⟩, ha.setAt (show NdOk nd from ha _ _ hn)⟩, fun w own ptr tb hT hO => SetTag_ok hT hO hn ht tag (by omega) (by omega) (by omega), fun w F rb s av hR => rSet_tag hR hi0 ht tag s av (by omega) (by omega) (by omega)⟩
theorem Graft_pair (hG : GoodT T) (p at' : Int) (n : PN) (hsh : n.short = true) (hsz : n.size ≤ 90000) : ∃ (x er : Int) (T' : Tr), GoodT T' ∧
    (∀ (g w : World) (own : Ow) (ptr : Nat → Nat) (tb : Nat) (nv : Value), TreeAt w own ptr tb T → Owned own w → RdN g n nv → Apart g own w → Calls Try.prog 31 #[.pointer (some ⟨tb, 0, none⟩), .int .i64 p, .int .i64 at', nv] w (DTwo own w tb x er T')) ∧
    (∀ (g w : World) (F : Nat → Prop) (rb : Nat) (nv : Value), RefOn w F rb T → RdN g n nv → RApart g F w → Calls Try.prog 102 #[.pointer (some ⟨rb, 0, none⟩), .int .i64 p, .int .i64 at', nv] w (RTwoAft F w rb x er T')) := by
  obtain ⟨⟨d, hw⟩, ha⟩ := hG
  have hg : GoodT T := ⟨⟨d, hw⟩, ha⟩
  cases hp : T.get? p with
  | none =>
    refine ⟨0, 2, T, hg, fun g w own ptr tb nv hT hO hr hap => ?_, fun g w F rb nv hR hr hap => ?_⟩
    · obtain ⟨av, kv, rfl, _, _⟩ := hr.open
      exact (Graft_none hT hO hp _ _ _ _).mono fun e w' h => dtwo_same hT hO h
    · obtain ⟨av, kv, rfl, _, _⟩ := hr.open
      exact rGraft_none hR hp _ _ _ _
  | some pd =>
    rcases tag_b (x := pd.tag) with ht | ht
    · refine ⟨0, 6, T, hg, fun g w own ptr tb nv hT hO hr hap => ?_, fun g w F rb nv hR hr hap => ?_⟩
      · obtain ⟨av, kv, rfl, _, _⟩ := hr.open
        exact (Graft_kind hT hO hp ht _ _ _ _).mono fun e w' h => dtwo_same hT hO h
      · obtain ⟨av, kv, rfl, _, _⟩ := hr.open
        exact rGraft_kind hR hp ht _ _ _ _
    · by_cases harg : at' < 0 ∨ (pd.kids.length : Int) < at'
      · refine ⟨0, 1, T, hg, fun g w own ptr tb nv hT hO hr hap => ?_, fun g w F rb nv hR hr hap => ?_⟩
        · obtain ⟨av, kv, rfl, _, _⟩ := hr.open
          exact (Graft_arg hT hO hp ht harg _ _ _ _).mono fun e w' h => dtwo_same hT hO h
        · obtain ⟨av, kv, rfl, _, _⟩ := hr.open
          exact rGraft_arg hR hp ht harg _ _ _ _
      · obtain ⟨p', rfl, hpn⟩ := nat_of hp
        obtain ⟨a', rfl⟩ := Int.eq_ofNat_of_zero_le (show 0 ≤ at' by omega)
        have hal : a' ≤ pd.kids.length := by omega
        by_cases he : (PN.look 0 ⟨0, 0, 0⟩ n).e = 0
        · have hok : n.ok = true := ((look_spec n 0 ⟨0, 0, 0⟩).2.2.1 he).2
          by_cases hdp : T.deep < (d p' : Int) + 1 + n.high
          · exact ⟨0, 4, T, hg, fun g w own ptr tb nv hT hO hr hap => (Graft_deep hT hO hw hpn ht hal hr hap hsh hsz hok hdp).mono fun e w' h => dtwo_same hT hO h, fun g w F rb nv hR hr hap => rGraft_deep hR hw hpn ht hal hr hap hsh hsz hok hdp⟩
          · by_cases hf : (n.size : Int) ≤ T.cap - T.count
            · obtain ⟨dz, m, hm1, hm0, hm2, hPut⟩ := into_ok n hok T d hw (by omega) (by omega)
              obtain ⟨kd, hk1, hk2⟩ := hPut.node
              have hpm : p' ≠ m := fun e => hm2 pd (e ▸ hpn)
              obtain ⟨hap1, hap2⟩ := hPut.apart hw hm2 p' pd hpn
              have hgr : T.grafted p' a' pd n = (PN.into T n).link p' a' m pd kd := by
                unfold Tr.grafted; rw [hm1, Int.toNat_natCast, look_of hk1]
              have hi := into_attrs n hok hsh T ha
              refine ⟨T.newId, 0, T.grafted p' a' pd n, ⟨⟨_, hgr ▸ hPut.wf.link (hPut.old p' pd hpm hpn) hk1 (by simpa using ht) hm0 hk2 hap1 (by rw [hap2, hPut.deep, hPut.high]; omega)⟩, ?_⟩, fun g w own ptr tb nv hT hO hr hap => Graft_ok hT hO hw hpn ht hal hr hap hsh hsz hok (by omega) hf, fun g w F rb nv hR hr hap => rGraft_ok hR hw hpn ht hal hr hap hsh hsz hok (by omega) hf⟩
              rw [hgr, Tr.link_eq]
              exact hi.set2 (show NdOk pd from ha _ _ hpn) (show NdOk kd from hi _ _ hk1)
            · exact ⟨0, 3, T, hg, fun g w own ptr tb nv hT hO hr hap => (Graft_full hT hO hw hpn ht hal hr hap hsh hsz hok (by omega) hf).mono fun e w' h => dtwo_same hT hO h, fun g w F rb nv hR hr hap => rGraft_full hR hw hpn ht hal hr hap hsh hsz hok (by omega) hf⟩
        · exact ⟨0, (PN.look 0 ⟨0, 0, 0⟩ n).e, T, hg, fun g w own ptr tb nv hT hO hr hap => (Graft_bad hT hO hw hpn ht hal hr hap hsh hsz he).mono fun e w' h => dtwo_same hT hO h, fun g w F rb nv hR hr hap => by rw [look_e0] at he ⊢; exact rGraft_bad hR hw hpn ht hal hr hap hsh hsz he⟩
end Go.Proofs.Ytiglflmjidikpaa
