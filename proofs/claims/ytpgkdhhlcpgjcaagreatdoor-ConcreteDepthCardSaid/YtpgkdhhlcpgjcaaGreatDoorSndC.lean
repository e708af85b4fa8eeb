import Derived.Test.YtpgkdhhlcpgjcaaGreatDoorSndB
/-
  Appending where the capacity is not known; maps that are written.
-/
namespace Ev
open Go Go.RowKit

/-- the elder name goes, a new one stands for the same block -/
theorem move_rep [Fam] {st st1 st' : St} {k k' : Nat} {b B : Blk} (hd : st.drop k = some st1) (hf : st1.fresh (.cells B) = some (k', st')) {ρ : Val} {w w' : World} {L : Loc} (hr : Rep ρ st.look w) (hlk : st.look k = some (.cells b)) (hown : b.own = true) (hB : B.own = true)
    (hL : ρ k = some L) (hnew : ρ k' = none) (hw : OnlyAt L.blk w w') (hat : RowAt (bind1 ρ k' L) B L w') :
    Rep (bind1 ρ k' L) st'.look w' ∧ Step st.next st'.next ρ st.look w (bind1 ρ k' L) st'.look w' := by
  obtain ⟨d1, d2, d3, d4, d5⟩ := drop_spec hd
  obtain ⟨rfl, f2, f3, f4, f5, f6⟩ := fresh_spec hf
  have hle := bind1_le L hnew
  have old : ∀ m o, st'.look m = some o → m ≠ st1.next → m ≠ k ∧ st.look m = some o := fun m o hm hne => by
    rw [look_eq, f3, f6, if_neg hne, d5, d2] at hm
    split at hm
    · cases hm
    · rename_i hb
      split at hm
      · cases hm
      · rename_i hmk; exact ⟨hmk, by rw [look_eq, if_neg hb]; exact hm⟩
  have new : ∀ o, st'.look st1.next = some o → o = .cells B := fun o hm => by
    have := (look_of hm).1
    rw [f6, if_pos rfl] at this
    exact (Option.some.inj this).symm
  have apart : ∀ m o l, st.look m = some o → m ≠ k → ρ m = some l → l.blk ≠ L.blk := fun m o l hm hne hl => (hr.sep k m _ o L l hlk hm (fun e => hne e.symm) hown hL hl).symm
  have nn : ∀ m o, st.look m = some o → ∃ l, ρ m = some l ∧ ObjAt ρ o l w := hr.lies
  have hkown : Owns ρ st.look L.blk := ⟨k, _, L, hlk, hown, hL, rfl⟩
  have hstep : Step st.next st'.next ρ st.look w (bind1 ρ st1.next L) st'.look w' := by
    refine ⟨hle, fun m hm => bind1_ne _ (by omega), hw.os, hw.tape, hw.output, by rw [hw.size]; exact Nat.le_refl _, fun r _ hn => hw.block r fun e => hn (e ▸ hkown), fun r ⟨m, o, l, hm, ho, hl, hb⟩ => .inl ?_, fun m o hm => ?_⟩
    · by_cases e : m = st1.next
      · subst e
        rw [bind1_self] at hl
        cases hl
        exact hb ▸ hkown
      · obtain ⟨h1, h2⟩ := old m o hm e
        rw [bind1_ne _ e] at hl
        exact ⟨m, o, l, h2, ho, hl, hb⟩
    · by_cases e : m = st1.next
      · subst e
        cases new _ hm
        exact .inl hB
      · exact .inr (.inl (old m o hm e).2)
  refine ⟨⟨fun m o hm => ?_, fun m j o1 o2 l l' hm hj hne ho1 hl hl' => ?_, fun m t hm => ?_⟩, hstep⟩
  · by_cases e : m = st1.next
    · subst e
      cases new _ hm
      exact ⟨L, bind1_self _ _ _, hat⟩
    · obtain ⟨h1, h2⟩ := old m o hm e
      obtain ⟨l, h3, h4⟩ := nn m o h2
      exact ⟨l, hle _ _ h3, h4.keep hle (hw.block _ (apart m o l h2 h1 h3))⟩
  · by_cases e : m = st1.next
    · subst e
      rw [bind1_self] at hl
      cases hl
      obtain ⟨h1, h2⟩ := old j o2 hj (fun e => hne e.symm)
      rw [bind1_ne _ (fun e => hne e.symm)] at hl'
      exact (apart j o2 l' h2 h1 hl').symm
    · obtain ⟨h1, h2⟩ := old m o1 hm e
      rw [bind1_ne _ e] at hl
      by_cases e2 : j = st1.next
      · subst e2
        rw [bind1_self] at hl'
        cases hl'
        exact apart m o1 l h2 h1 hl
      · obtain ⟨h3, h4⟩ := old j o2 hj e2
        rw [bind1_ne _ e2] at hl'
        exact hr.sep m j o1 o2 l l' h2 h4 hne ho1 hl hl'
  · by_cases e : m = st1.next
    · subst e
      have hB2 : own (.cells B) = true := hB
      rw [← new _ hm] at hB2
      cases hB2
    · exact opq_old hr hstep (old m _ hm e).2


theorem appMove_ok [Fam] {P : Program} {st st' : St} {t tx e : TypeId} {ie : TypeInfo} {z : Value} {n : Nat} {new : List SVal} (ht : P.underlying t = some (.slice e)) (ha : Apps P st e ie.size n new ie z) {k len : Nat} (hlen : len ≤ 1000000) {b : Blk} (hb : st.blk k = some b)
    (hrest : restOk b ie.size 0 len 0 = true) (hroom : b.n < (len + n) * ie.size) {r : SVal} (h : appMove st e ie.size n new k len b = some (r, st')) :
    Sta st st' ∧ ∀ {ρ : Val} {w : World}, Rep ρ st.look w → Wf st → Free ρ st.next st'.next → ∀ {us ux : Value} {news : List Value}, den ρ (.sl k 0 len (.rest 0)) = some us → denL ρ new = some news → Src P ie.size tx ux n news w → ∀ ty, Ran P (Builtin.append_ #[t, tx] ty #[us, ux]) st st' r ρ w := by
  unfold appMove at h
  rw [whn_some, whn_some, bnd_some] at h
  obtain ⟨hown, hel, c, hc, h⟩ := h
  rw [bnd_some] at h
  obtain ⟨st1, hdr, h⟩ := h
  rw [bnd_some] at h
  obtain ⟨⟨k', st2⟩, hfr, h⟩ := h
  cases h
  have hel := beq_true hel
  have hlk := blk_spec hb
  obtain ⟨hsl, hle, _, hpos⟩ := restOk_spec hrest
  rw [Nat.zero_add] at hle
  obtain ⟨d1, d2, d3, d4, d5⟩ := drop_spec hdr
  obtain ⟨f1, f2, _⟩ := fresh_spec hfr
  have f1 : k' = st1.next := f1
  have f2 : st2.next = st1.next + 1 := f2
  refine ⟨(drop_sta hdr hlk).trans (fresh_sta hfr), fun {ρ w} hr hwf hf us ux news hd hdn hs ty => ?_⟩
  have hf : Free ρ st.next st2.next := hf
  obtain ⟨L, hk, rfl⟩ := den_sl hd
  obtain ⟨L', hk', hat⟩ := hr.lies k _ hlk
  rw [hk] at hk'
  cases hk'
  have hat : RowAt ρ b L w := hat
  have hnl := denL_length hdn
  have hnn := hs.newsLen
  have hnew : new.length = n * ie.size := by omega
  have hknew : ρ k' = none := hf k' (by omega) (by omega)
  have hbase : L.base = 0 := by obtain ⟨_, _, _, _, _, h3, _⟩ := hat; exact (h3 hown).1
  have hcap : len + 0 ≤ L.cap := by have := rest_cap hrest hb hr hk; omega
  have hwf1 : Wf st1 := hwf.sta (drop_sta hdr hlk)
  by_cases hc' : len + n ≤ L.cap
  · obtain ⟨w', h1, h2, h3⟩ := row_write (n := (len + n) * ie.size) hat hown hdn ha.flat hc (.inl (by rw [hnew]; show _ = max b.n (len * ie.size + n * ie.size); rw [← Nat.add_mul]; omega)) hle
      (.inr ⟨ie.size, hsl, by rw [hnew]; show len * ie.size + n * ie.size ≤ _; rw [← Nat.add_mul]; exact Nat.mul_le_mul_right _ hc'⟩)
    have hb1 : RowAt (bind1 ρ k' L) ⟨(len + n) * ie.size, c, e, some ie.size, true⟩ L w' := by
      obtain ⟨cs, e', fz, g1, g2, g3, g4⟩ := h3
      refine ⟨cs, e', fz, g1, fun i hi => ?_, fun _ => ?_, fun sz hsz => ?_⟩
      · obtain ⟨s, v, g5, g6, g7⟩ := g2 i hi
        exact ⟨s, v, g5, den_le (bind1_le L hknew) _ _ g6, g7⟩
      · obtain ⟨g5, g6, g7, _⟩ := g3 hown
        exact ⟨g5, g6, g7.trans hel, fun e => by cases e⟩
      · obtain ⟨g5, g6⟩ := g4 sz (hsl.trans hsz)
        exact ⟨g5, fun _ => g6 hown⟩
    obtain ⟨h4, h5⟩ := move_rep hdr hfr hr hlk hown rfl hk hknew h1 hb1
    refine ⟨_, .slice (some ⟨L.blk, L.base + 0, none⟩) (len + n) L.cap, w', ?_, ?_, h4, h5⟩
    · exact app_room ht ha.info hs hc' (h2 P)
    · simp only [den, bind1_self, Option.map_some]; rfl
  · have hn : ¬ len + n ≤ L.cap := hc'
    obtain ⟨cs, e', fz, g1, g2, g3, g4⟩ := hat
    have hge := grownCap_ge w (len + n) L.cap e
    let olds : List Value := (List.range (len * ie.size)).map fun j => (cs[L.base + j]?).getD undef
    have hol : olds.length = len * ie.size := by simp [olds]
    have hold : ∀ i, i < len * ie.size → ∃ s v, b.c.get i = some s ∧ den ρ s = some v ∧ olds[i]? = some v ∧ cs[L.base + i]? = some v := fun i hi => by
      obtain ⟨s, v, g5, g6, g7⟩ := g2 i (by omega)
      exact ⟨s, v, g5, g6, by simp [olds, hi, g7], g7⟩
    have hfirst : (Builtin.firstCells ie.size len (.slice (some ⟨L.blk, L.base + 0, none⟩) len L.cap)).run P w.drew = .ok olds.toArray w.drew := by
      show (loadCells ⟨L.blk, L.base + 0, none⟩ (len * ie.size)).run P w.drew = _
      rw [← hol]
      refine run_loadCells_list (P := P) w.drew _ olds fun j v hv => ?_
      have hj : j < len * ie.size := by rw [← hol]; exact (List.getElem?_eq_some_iff.1 hv).1
      obtain ⟨_, v', _, _, g6, g7⟩ := hold j hj
      rw [hv] at g6
      cases g6
      rw [add_addr]
      have g1' : w.drew.heap[L.blk]? = some (.cells cs e' fz) := g1
      simp [World.cell?, g1', g7]
    have hxl : (olds ++ news).length = (len + n) * ie.size := by rw [List.length_append, hol, hs.newsLen, Nat.add_mul]
    have hsz := grown_cells ha.zsize hxl hge
    obtain ⟨h1, h2⟩ := drop_rep hdr hr.drew
    obtain ⟨ρ', h3, h4, h5⟩ := newBlk_spec hfr h1 hwf1 (hf.mono (by omega) (Nat.le_refl _)) (cs := (olds ++ news).toArray ++ Builtin.zeroCells z.cells (grownCap w (len + n) L.cap e - (len + n))) (cap := grownCap w (len + n) L.cap e)
      (fun i hi => by
        have hi : i < (len + n) * ie.size := hi
        have hi' : i < (olds ++ news).length := by omega
        have hl := T.lay_spec hc i
        rw [Array.getElem?_append_left (by simpa using hi')]
        by_cases hlt : i < len * ie.size
        · obtain ⟨s, v, g5, g6, g7, _⟩ := hold i hlt
          have hnc : ¬ (Nat.mul len ie.size ≤ i ∧ i < Nat.mul len ie.size + new.length) := fun hh => absurd hh.1 (Nat.not_le.2 hlt)
          rw [if_neg hnc] at hl
          exact ⟨s, v, hl.trans g5, g6, by rw [List.getElem?_toArray, List.getElem?_append_left (by omega)]; exact g7⟩
        · have hlt' : i - len * ie.size < new.length := by rw [hnew]; rw [Nat.add_mul] at hi; omega
          have hyc : Nat.mul len ie.size ≤ i ∧ i < Nat.mul len ie.size + new.length := ⟨Nat.not_lt.1 hlt, by show i < len * ie.size + new.length; omega⟩
          rw [if_pos hyc] at hl
          obtain ⟨v, g5, g6⟩ := denL_get hdn (List.getElem?_eq_getElem hlt')
          exact ⟨_, v, hl.trans (List.getElem?_eq_getElem hlt'), g6, by rw [List.getElem?_toArray, List.getElem?_append_right (by omega), hol]; exact g5⟩)
      (fun e => by cases e) (fun sz e => by
        cases e
        exact ⟨Nat.mul_le_mul_right _ hge, hsz⟩)
    refine ⟨ρ', .slice (some ⟨w.heap.size, 0, none⟩) (len + n) (grownCap w (len + n) L.cap e), _,
      run_append_grow_src w t tx ty e ie z ht ha.info ha.zero (some ⟨L.blk, L.base + 0, none⟩) len L.cap olds hfirst ux n news hs (by omega) (by have := ha.few; omega) (grow_fits (by omega) (by have := ha.few; omega) ha.bytes), ?_, h4, ?_⟩
    · simp only [den, h3, Option.map_some]; rfl
    · exact ((Step.drawn st.next ρ st.look w (w.drawn + 1)).trans h2 (Nat.le_refl _) (by omega)).trans h5 (by omega) (by show st1.next ≤ st2.next; omega)

theorem appRest_ok [Fam] {P : Program} {st st' : St} {t tx e : TypeId} {ie : TypeInfo} {z : Value} {n : Nat} {new : List SVal} (ht : P.underlying t = some (.slice e)) (ha : Apps P st e ie.size n new ie z) {k off len o : Nat} (hlen : len ≤ 1000000) {r : SVal}
    (h : appRest st e ie.size n new k off len o = some (r, st')) :
    Sta st st' ∧ ∀ {ρ : Val} {w : World}, Rep ρ st.look w → Wf st → Free ρ st.next st'.next → ∀ {us ux : Value} {news : List Value}, den ρ (.sl k off len (.rest o)) = some us → denL ρ new = some news → Src P ie.size tx ux n news w → ∀ ty, Ran P (Builtin.append_ #[t, tx] ty #[us, ux]) st st' r ρ w := by
  unfold appRest at h
  rw [bnd_some] at h
  obtain ⟨b, hb, h⟩ := h
  rw [whn_some] at h
  obtain ⟨hrest, h⟩ := h
  cases hn : Nat.ble (Nat.add off (Nat.mul (Nat.add len n) ie.size)) b.n with
  | true =>
    rw [hn] at h
    have h : bnd (storeS st k (Nat.add off (Nat.mul len ie.size)) new) (fun st' => some (SVal.sl k off (Nat.add len n) (.rest o), st')) = some (r, st') := h
    rw [bnd_some] at h
    obtain ⟨st1, h1, h2⟩ := h
    cases h2
    refine ⟨(storeS_sta h1).1, fun {ρ w} hr hwf hf us ux news hd hdn hs ty => ?_⟩
    obtain ⟨L, hk, rfl⟩ := den_sl hd
    obtain ⟨_, _, l', w', h7, h8, h9, h10⟩ := storeS_spec hr h1 hdn
    rw [hk] at h7
    cases h7
    obtain ⟨q1, q2, q3, q4⟩ := restOk_spec hrest
    have hroom : len + n ≤ L.cap - o := by
      obtain ⟨L', hk', hat⟩ := hr.lies k _ (blk_spec hb)
      rw [hk] at hk'
      cases hk'
      obtain ⟨cs, e', fz, _, _, _, g4⟩ := hat
      have h1 := (g4 _ q1).1
      have hn : off + (len + n) * ie.size ≤ b.n := ble_true hn
      have h2 : (o + (len + n)) * ie.size ≤ L.cap * ie.size := by rw [Nat.add_mul, ← q3]; omega
      have := Nat.le_of_mul_le_mul_right h2 q4
      omega
    have := app_room (ty := ty) (b := L.blk) (off := L.base + off) (sLen := len) (sCap := L.cap - o) ht ha.info hs hroom (by rw [← h8 P]; simp [Nat.add_assoc])
    exact ⟨ρ, _, w', this, by simp [den, hk], h9, h10⟩
  | false =>
    rw [hn] at h
    have h : whn (Nat.beq off 0) (whn (Nat.beq o 0) (appMove st e ie.size n new k len b)) = some (r, st') := h
    rw [whn_some, whn_some] at h
    obtain ⟨h1, h2, h3⟩ := h
    cases beq_true h1
    cases beq_true h2
    refine appMove_ok ht ha hlen hb hrest ?_ h3
    have hn : b.n < 0 + (len + n) * ie.size := ble_false hn
    omega

/-- zeros, where there is no room -/
theorem appZTo_ok [Fam] {P : Program} {st st' : St} {t tx e : TypeId} {kn : IntKind} {ie : TypeInfo} {z : SVal} {zv : Value} {n : Nat} (ht : P.underlying t = some (.slice e)) (htx : P.underlying tx = some (.int kn)) (ha : Apps P st e ie.size n [] ie zv) (hz : ∀ ρ, den ρ z = some zv) (hn : 1 ≤ n)
    (hsz : 1 ≤ ie.size) {s r : SVal} (h : appZTo st e ie.size n (zeros (scells z) n) s = some (r, st')) :
    Sta st st' ∧ ∀ {ρ : Val} {w : World}, Rep ρ st.look w → Wf st → Free ρ st.next st'.next → ∀ {us : Value}, den ρ s = some us → ∀ kq ty, Ran P (Builtin.append_ #[t, tx] ty #[us, .int kq n]) st st' r ρ w := by
  have hzl := ha.zsize
  have grow : ∀ {old : List SVal} {k : Nat} {st1 : St}, newRowS st (old ++ zeros (scells z) n) e (some ie.size) = some (k, st1) → ∀ {ρ : Val} {w : World}, Rep ρ st.look w → Wf st → Free ρ st.next st1.next → ∀ {base : Option Addr} {len c : Nat} {olds : List Value}, len ≤ 1000000 → c < len + n →
      denL ρ old = some olds → olds.length = len * ie.size → (Builtin.firstCells ie.size len (.slice base len c)).run P w.drew = .ok olds.toArray w.drew → ∀ kq ty, Ran P (Builtin.append_ #[t, tx] ty #[.slice base len c, .int kq n]) st st1 (.sl k 0 (len + n) (.rest 0)) ρ w := by
    intro old k st1 h ρ w hr hwf hf base len c olds hlen hc hold hol hfirst kq ty
    obtain ⟨h1, h2⟩ := newRow_spec h
    have hge := grownCap_ge w (len + n) c e
    have hzd := zeros_den (scells_den (hz ρ)) n
    have hzc : madeCells zv.cells.toList.toArray (n * zv.cells.toList.length) = Builtin.zeroCells zv.cells n := by simp [madeCells, Builtin.zeroCells]
    rw [hzc] at hzd
    have hzn : (Builtin.zeroCells zv.cells n).toList.length = n * ie.size := by rw [Array.length_toList, size_zeroCells, hzl]
    have hxl : (olds ++ (Builtin.zeroCells zv.cells n).toList).length = (len + n) * ie.size := by rw [List.length_append, hol, hzn, Nat.add_mul]
    have hsz' := grown_cells hzl hxl hge
    have hd := denL_append.2 ⟨_, _, hold, hzd, rfl⟩
    have hdl := denL_length hd
    obtain ⟨ρ', h3, h4, h5⟩ := h2 hr.drew hwf hf hd (cs := (olds ++ (Builtin.zeroCells zv.cells n).toList).toArray ++ Builtin.zeroCells zv.cells (grownCap w (len + n) c e - (len + n))) (cap := grownCap w (len + n) c e)
      (fun i v hv => by
        have hi : i < (olds ++ (Builtin.zeroCells zv.cells n).toList).length := (List.getElem?_eq_some_iff.1 hv).1
        rw [Array.getElem?_append_left (by simpa using hi)]
        simpa using hv)
      (fun e => by cases e) (fun sz e => by
        cases e
        refine ⟨?_, hsz'⟩
        rw [← hdl, hxl]
        exact Nat.mul_le_mul_right _ hge)
    refine ⟨ρ', .slice (some ⟨w.heap.size, 0, none⟩) (len + n) (grownCap w (len + n) c e), _, ?_, ?_, h4, (Step.drawn st.next ρ st.look w (w.drawn + 1)).trans h5 (Nat.le_refl _) h1.next⟩
    · have := Lib.run_append_grow_zeros w t tx ty e ie zv kq kn ht htx ha.info ha.zero base len c olds hfirst n hn hsz hc (by have := ha.few; omega) (by have := Nat.mul_le_mul ha.few ha.bytes; omega) (grow_fits hc (by have := ha.few; omega) ha.bytes)
      rw [this]
      refine congrArg (fun x => Result.ok _ (w.drew.alloc (.cells (x ++ _) e))) ?_
      apply Array.ext'
      simp
    · simp [den, h3]
  unfold appZTo at h
  split at h
  · rw [bnd_some] at h
    obtain ⟨⟨k, st1⟩, h1, h2⟩ := h
    cases h2
    refine ⟨(newRow_spec h1).1, fun {ρ w} hr hwf hf us hd kq ty => ?_⟩
    cases hd
    have := grow (old := []) (olds := []) h1 hr hwf hf (base := none) (len := 0) (c := 0) (by omega) (by omega) rfl (by simp) rfl kq ty
    simpa using this
  · rename_i k off len c
    rw [whn_some, whn_some, bnd_some] at h
    obtain ⟨hlen, hroom, old, h1, h⟩ := h
    rw [bnd_some] at h
    obtain ⟨⟨k', st1⟩, h2, h3⟩ := h
    cases h3
    refine ⟨(newRow_spec h2).1, fun {ρ w} hr hwf hf us hd kq ty => ?_⟩
    obtain ⟨L, hk, rfl⟩ := den_sl hd
    obtain ⟨l', vs, h3, h4, h5, _, h6⟩ := loadS_spec hr.drew h1
    rw [hk] at h3
    cases h3
    have hroom : c < len + n := ble_true hroom
    exact grow (base := some ⟨L.blk, L.base + off, none⟩) h2 hr hwf hf (ble_true hlen) hroom h4 h5 (h6 P) kq ty
  · cases h

theorem append_ok [Fam] {P : Program} {E : Env} (hE : EnvOk P E) {ts : List TypeId} {s x r : SVal} {st st' : St} (h : appendS E st ts s x = some (r, st')) :
    Sta st st' ∧ ∀ {ρ : Val} {w : World}, Rep ρ st.look w → Wf st → Free ρ st.next st'.next → ∀ {us ux : Value}, den ρ s = some us → den ρ x = some ux → ∀ ty, Ran P (Builtin.append_ ts.toArray ty #[us, ux]) st st' r ρ w := by
  unfold appendS at h
  rw [bnd_some] at h
  obtain ⟨t, h0, h⟩ := h
  rw [bnd_some] at h
  obtain ⟨e, h1, h⟩ := h
  rw [bnd_some] at h
  obtain ⟨size, h2, h⟩ := h
  rw [bnd_some] at h
  obtain ⟨bytes, h3, h⟩ := h
  rw [bnd_some] at h
  obtain ⟨z, h4, h⟩ := h
  rw [whn_some, whn_some, bnd_some] at h
  obtain ⟨h5, h10, m, h6, h⟩ := h
  obtain ⟨tx, htx, hkind⟩ := manyT_spec hE h6
  have ht := elemT_spec hE h1
  obtain ⟨ie, hie, rfl, _⟩ := sizeT_spec hE h2
  obtain ⟨ib, hib, rfl⟩ := bytesT_spec hE h3
  rw [hie] at hib
  cases hib
  obtain ⟨iz, zv, hiz, hzv, hdz, _⟩ := zeroT_spec hE h4
  rw [hie] at hiz
  cases hiz
  have hzl : zv.cells.size = ie.size := by
    have := denL_length (scells_den (hdz fun _ => none))
    have h5 := beq_true h5
    simp at this
    omega
  have hts0 : ts.toArray[0]? = some t := by rw [List.getElem?_toArray, ← List.head?_eq_getElem?]; exact h0
  have hts1 : ts.toArray[1]? = some tx := by rw [List.getElem?_toArray]; exact htx
  cases m with
  | false =>
    obtain ⟨kn, hkn⟩ := hkind
    have h : appZ st e ie.size z s x = some (r, st') := h
    unfold appZ at h
    rw [bnd_some] at h
    obtain ⟨i, g1, h⟩ := h
    rw [bnd_some] at h
    obtain ⟨n, g2, h⟩ := h
    rw [whn_some, whn_some] at h
    obtain ⟨g3, g4, h⟩ := h
    obtain ⟨rfl, hlt⟩ := idx_spec g2
    have ha : Apps P st e ie.size n [] ie zv := ⟨hie, rfl, hzv, hzl, ble_true h10, by omega, rfl⟩
    obtain ⟨g5, g6⟩ := appZTo_ok ht hkn ha hdz (ble_true g3) (ble_true g4) h
    refine ⟨g5, fun {ρ w} hr hwf hf us ux hds hdx ty => ?_⟩
    obtain ⟨kq, rfl⟩ := asI_den g1 hdx
    rw [append_args hts0 hts1]
    exact g6 hr hwf hf hds kq ty
  | true =>
  have hkind : (∃ e', P.underlying tx = some (.slice e')) ∨ P.underlying tx = some .string := hkind
  have h : appMany st e ie.size s x = some (r, st') := h
  unfold appMany at h
  rw [bnd_some] at h
  obtain ⟨n, h8, h⟩ := h
  rw [bnd_some] at h
  obtain ⟨new, h9, h⟩ := h
  rw [whn_some, whn_some] at h
  obtain ⟨h11, h12, h⟩ := h
  have ha : Apps P st e ie.size n new ie zv := ⟨hie, rfl, hzv, hzl, ble_true h10, ble_true h11, h12⟩
  have src : ∀ {ρ : Val} {w : World}, Rep ρ st.look w → ∀ {ux : Value}, den ρ x = some ux → ∃ news, denL ρ new = some news ∧ news.length = n * ie.size ∧ Src P ie.size tx ux n news w := fun hr ux hx => src_of h9 h8 h12 hr hx hkind
  unfold appTo at h
  split at h
  · obtain ⟨g1, g2⟩ := appNew_ok (tx := tx) ht ha h
    refine ⟨g1, fun {ρ w} hr hwf hf us ux hds hdx ty => ?_⟩
    obtain ⟨news, g3, g4, g5⟩ := src hr hdx
    cases hds
    rw [append_args hts0 hts1]
    exact g2 hr hwf hf g3 g5 ty
  · rename_i k off len cap _
    rw [whn_some] at h
    obtain ⟨hlen, h⟩ := h
    have hlen := ble_true hlen
    cases hn : Nat.beq n 0 with
    | true =>
      rw [hn] at h
      have h : appNone st ie.size k off len cap = some (r, st') := h
      cases beq_true hn
      obtain ⟨rfl, g2⟩ := appNone_ok (tx := tx) ht hie h
      refine ⟨Sta.refl _, fun {ρ w} hr hwf hf us ux hds hdx ty => ?_⟩
      obtain ⟨news, g3, g4, g5⟩ := src hr hdx
      rw [append_args hts0 hts1]
      exact g2 hr hds g5 ty
    | false =>
      rw [hn] at h
      cases cap with
      | ex c =>
        have h : appEx st e ie.size n new k off len c = some (r, st') := h
        obtain ⟨g1, g2⟩ := appEx_ok (tx := tx) ht ha hlen h
        refine ⟨g1, fun {ρ w} hr hwf hf us ux hds hdx ty => ?_⟩
        obtain ⟨news, g3, g4, g5⟩ := src hr hdx
        rw [append_args hts0 hts1]
        exact g2 hr hwf hf hds g3 g5 ty
      | rest o =>
        have h : appRest st e ie.size n new k off len o = some (r, st') := h
        obtain ⟨g1, g2⟩ := appRest_ok (tx := tx) ht ha hlen h
        refine ⟨g1, fun {ρ w} hr hwf hf us ux hds hdx ty => ?_⟩
        obtain ⟨news, g3, g4, g5⟩ := src hr hdx
        rw [append_args hts0 hts1]
        exact g2 hr hwf hf hds g3 g5 ty
  · cases h
end Ev
/-
  Maps that are written; built-in functions.
-/
namespace Ev
open Go Go.RowKit

theorem setObj_only (w : World) (r : Nat) (o : Obj) : OnlyAt r w { w with heap := w.heap.setIfInBounds r o } :=
  ⟨rfl, rfl, rfl, by simp, fun k hk => by simp [Ne.symm hk]⟩
theorem Ents.append {ρ : Val} {es : List (SVal × SVal)} {l : List MapEntry} (h : Ents ρ es l) {k v : SVal} {e : MapEntry} (hk : den ρ k = some e.key) (hv : den ρ v = some e.val) : Ents ρ (es ++ [(k, v)]) (l ++ [e]) := by
  refine ⟨by simp [h.1], fun i p hp => ?_⟩
  by_cases hi : i < es.length
  · rw [List.getElem?_append_left hi] at hp
    rw [List.getElem?_append_left (by rw [h.1]; exact hi)]
    exact h.2 i p hp
  · rw [List.getElem?_append_right (by omega)] at hp
    rw [List.getElem?_append_right (by rw [h.1]; omega), h.1]
    cases hj : i - es.length with
    | zero => rw [hj] at hp; simp at hp; subst hp; exact ⟨e, rfl, hk, hv⟩
    | succ j => rw [hj] at hp; simp at hp
theorem Ents.modify {ρ : Val} {es : List (SVal × SVal)} {l : List MapEntry} (h : Ents ρ es l) {v : SVal} {u uk : Value} (hv : den ρ v = some u) {j : Nat} {e : MapEntry} (hj : l[j]? = some e) (hk : e.key = uk) :
    Ents ρ (es.modify j fun p => (p.1, v)) (l.modify j fun e => { e with key := uk, val := u }) := by
  refine ⟨by simp [h.1], fun i p hp => ?_⟩
  rw [List.getElem?_modify] at hp ⊢
  cases hi : es[i]? with
  | none => rw [hi] at hp; cases hp
  | some q =>
    rw [hi] at hp
    obtain ⟨e0, h1, h2, h3⟩ := h.2 i q hi
    rw [h1]
    by_cases hij : j = i
    · subst hij
      rw [hj] at h1
      cases h1
      simp only [if_true] at hp
      cases hp
      exact ⟨_, by simp; rfl, by simp only; rw [← hk]; exact h2, hv⟩
    · simp only [if_neg hij] at hp
      cases hp
      exact ⟨e0, by simp [if_neg hij], h2, h3⟩

theorem mapUpdate_ok [Fam] {P : Program} {E : Env} (hE : EnvOk P E) {t : TypeId} {ke : TypeId × TypeId} (ht : bnd (under E t) mapD = some ke) {st st' : St} {m k v : SVal} {r : Nat} (hm : asMapN m = some r) {es : List (SVal × SVal)} (he : mapAt st r = some es) {d : TypeDesc} (hd : under E ke.1 = some d)
    (hkd : keyD d k = true) {q : Option (Nat × SVal)} (hf : findS d k es 0 = some q)
    (h : st.put r (.map (@Option.rec _ (fun _ => List (SVal × SVal)) (es ++ [(k, v)]) (fun p => es.modify p.1 fun e => (e.1, v)) q)) = some st') :
    Sta st st' ∧ st'.next = st.next ∧ ∀ {ρ : Val} {w : World}, Rep ρ st.look w → ∀ {um uk uv : Value}, den ρ m = some um → den ρ k = some uk → den ρ v = some uv →
      ∃ w', (Instr.mapUpdate t um uk uv).run P w = .ok () w' ∧ Rep ρ st'.look w' ∧ Step st.next st'.next ρ st.look w ρ st'.look w' := by
  have hlk := mapAt_spec he
  refine ⟨put_sta h hlk, (put_spec h).1, fun {ρ w} hr um uk uv hdm hdk hdv => ?_⟩
  have hu := mapD_spec hE ht
  have hdk' := under_spec hE hd
  have hkey := keyD_ok hkd hdk
  obtain ⟨L, hL, rfl⟩ := asMapN_den hm hdm
  obtain ⟨L', hL', hat⟩ := hr.lies r _ hlk
  rw [hL] at hL'
  cases hL'
  obtain ⟨ents, clock, h1, h2, h3⟩ := hat
  have hents : Ents ρ es ents.toList := ⟨h2, h3⟩
  obtain ⟨q', h4, h5⟩ := findS_ok hdk hf hents
  have hlt : L.blk < w.heap.size := (Array.getElem?_eq_some_iff.1 h1).1
  have fin : ∀ (es' : List (SVal × SVal)) (ents' : Array MapEntry) (clock' : Nat), Ents ρ es' ents'.toList → st.put r (.map es') = some st' →
      Rep ρ st'.look { w with heap := w.heap.setIfInBounds L.blk (.map ents' clock') } ∧ Step st.next st'.next ρ st.look w ρ st'.look { w with heap := w.heap.setIfInBounds L.blk (.map ents' clock') } := fun es' ents' clock' he' hp =>
    put_rep hp hr hlk rfl rfl hL (setObj_only w _ _) ⟨ents', clock', by simp [hlt], he'.1, he'.2⟩
  cases q with
  | none =>
    cases q' with
    | some p => exact h5.elim
    | none =>
      obtain ⟨h6, h7⟩ := fin (es ++ [(k, v)]) (ents.push { key := uk, val := uv, born := clock }) (clock + 1) (by simpa using hents.append (e := { key := uk, val := uv, born := clock }) hdk hdv) h
      refine ⟨_, ?_, h6, h7⟩
      simp only [Instr.mapUpdate, Sem.run_bind, run_underlying hu, Result.andThen_ok, MapKept.run_getObj_map h1, MapKept.run_checkKey hdk' hkey, MapKept.run_findKey hdk' h4, MapKept.run_setObj_map _ h1]
  | some p =>
    cases q' with
    | none => exact h5.elim
    | some p' =>
      obtain ⟨j, e, pe, h10, rfl, h12, h13, h14, h15⟩ := h5
      rw [Nat.zero_add] at h10
      have hj : ents[j]? = some e := by simpa using h12
      obtain ⟨h6, h7⟩ := fin (es.modify p.1 fun e => (e.1, v)) (ents.modify j fun e => { e with key := uk, val := uv }) clock (by
        rw [h10]
        simpa using hents.modify hdv h12 h14) h
      refine ⟨_, ?_, h6, h7⟩
      simp only [Instr.mapUpdate, Sem.run_bind, run_underlying hu, Result.andThen_ok, MapKept.run_getObj_map h1, MapKept.run_checkKey hdk' hkey, MapKept.run_findKey hdk' h4, Nat.zero_add, hj, Option.map_some, Option.getD_some, h14,
        MapKept.run_keyThatStays hkey, MapKept.run_setObj_map _ h1]

/-- built-in functions -/
theorem builtin_ok [Fam] {P : Program} {E : Env} (hE : EnvOk P E) {b : Builtin} {ts : List TypeId} {args : List SVal} {st st' : St} {r : SVal} (h : builtinS E st b ts args = some (r, st')) :
    Sta st st' ∧ ∀ {ρ : Val} {w : World}, Rep ρ st.look w → Wf st → Free ρ st.next st'.next → ∀ {us : List Value}, denL ρ args = some us → ∀ ty consts,
      ∃ ρ' v w', (builtin b ts.toArray ty consts us.toArray).run P w = .ok (.value v) w' ∧ Good st st' r ρ w ρ' v w' := by
  have two : ∀ {ρ : Val} {a b : SVal} {us : List Value}, denL ρ [a, b] = some us → ∃ u v, den ρ a = some u ∧ den ρ b = some v ∧ us = [u, v] := fun hd => by
    obtain ⟨u, l, h1, h2, rfl⟩ := denL_cons.1 hd
    obtain ⟨v, l', h3, h4, rfl⟩ := denL_cons.1 h2
    rw [denL_nil] at h4
    subst h4
    exact ⟨u, v, h1, h3, rfl⟩
  have one : ∀ {ρ : Val} {a : SVal} {us : List Value}, denL ρ [a] = some us → ∃ u, den ρ a = some u ∧ us = [u] := fun hd => by
    obtain ⟨u, l, h1, h2, rfl⟩ := denL_cons.1 hd
    rw [denL_nil] at h2
    subst h2
    exact ⟨u, h1, rfl⟩
  have ran : ∀ {S : Sem Value} {ρ : Val} {w : World}, Ran P S st st' r ρ w → ∃ ρ' v w', ((do pure (.value (← S)) : Sem Next)).run P w = .ok (.value v) w' ∧ Good st st' r ρ w ρ' v w' := by
    rintro S ρ w ⟨ρ', v, w', h1, h2⟩
    exact ⟨ρ', v, w', by simp [h1], h2⟩
  have hts : ∀ {t : TypeId}, ts.head? = some t → ts.toArray[0]? = some t := fun h => by rw [List.getElem?_toArray, ← List.head?_eq_getElem?]; exact h
  unfold builtinS at h
  split at h
  · obtain ⟨h1, h2⟩ := append_ok hE h
    refine ⟨h1, fun {ρ w} hr hwf hf us hd ty consts => ?_⟩
    obtain ⟨u, v, h3, h4, rfl⟩ := two hd
    exact ran (h2 hr hwf hf h3 h4 ty)
  · rename_i x
    unfold lenB at h
    rw [bnd_some] at h
    obtain ⟨t, h0, h⟩ := h
    rw [bnd_some] at h
    obtain ⟨d, h1, h⟩ := h
    rw [bnd_some] at h
    obtain ⟨n, h2, h3⟩ := h
    cases h3
    refine ⟨Sta.refl _, fun {ρ w} hr hwf hf us hd ty consts => ?_⟩
    obtain ⟨u, h3, rfl⟩ := one hd
    exact ran (Ran.same hr (len_ok hE h1 hr h2 h3 (hts h0) ty) rfl)
  · rename_i x
    unfold capB at h
    rw [bnd_some] at h
    obtain ⟨t, h0, h⟩ := h
    rw [bnd_some] at h
    obtain ⟨e, h1, h⟩ := h
    rw [bnd_some] at h
    obtain ⟨n, h2, h3⟩ := h
    cases h3
    refine ⟨Sta.refl _, fun {ρ w} hr hwf hf us hd ty consts => ?_⟩
    obtain ⟨u, h3, rfl⟩ := one hd
    exact ran (Ran.same hr (cap_ok hE h1 h2 h3 (hts h0) ty w) rfl)
  · rename_i x l
    rw [bnd_some] at h
    obtain ⟨v, h1, h2⟩ := h
    cases h2
    refine ⟨Sta.refl _, fun {ρ w} hr hwf hf us hd ty consts => ?_⟩
    obtain ⟨u, vs, h3, h4, rfl⟩ := denL_cons.1 hd
    obtain ⟨v, h5, h6⟩ := max_ok (P := P) w h1 h4 h3
    exact ran (Ran.same hr (S := Builtin.max_ ts.toArray ty (u :: vs).toArray) h6 h5)
  · rename_i x l
    rw [bnd_some] at h
    obtain ⟨v, h1, h2⟩ := h
    cases h2
    refine ⟨Sta.refl _, fun {ρ w} hr hwf hf us hd ty consts => ?_⟩
    obtain ⟨u, vs, h3, h4, rfl⟩ := denL_cons.1 hd
    obtain ⟨v, h5, h6⟩ := min_ok (P := P) w h1 h4 h3
    exact ran (Ran.same hr (S := Builtin.min_ ts.toArray ty (u :: vs).toArray) h6 h5)
  · rename_i d s
    unfold copyB at h
    rw [bnd_some] at h
    obtain ⟨t, h0, h⟩ := h
    rw [bnd_some] at h
    obtain ⟨e, h1, h⟩ := h
    rw [bnd_some] at h
    obtain ⟨size, h2, h⟩ := h
    rw [bnd_some] at h
    obtain ⟨a, h3, h⟩ := h
    rw [bnd_some] at h
    obtain ⟨b, h4, h⟩ := h
    rw [bnd_some] at h
    obtain ⟨new, h5, h⟩ := h
    obtain ⟨h6, h7⟩ := copyTo_ok hE h1 h2 h3 h4 h5 h
    refine ⟨h6, fun {ρ w} hr hwf hf us hd ty consts => ?_⟩
    obtain ⟨u, v, h8, h9, rfl⟩ := two hd
    exact ran (h7 hr h8 h9 (hts h0) ty)
  · cases h
end Ev
/-
  Every operation.
-/
namespace Ev
open Go Go.RowKit

theorem map_arr {α β : Type} (f : α → β) (a : Array α) : (a.toList.map f).toArray = a.map f := Array.ext' (by simp)
/-- a call, as an operation sees it -/
def Call1 (P : Program) (f : FuncId) (args : Array Value) (w : World) (R : Value → World → Prop) : Prop :=
  ∀ (o : Oper) (a : Act) (next : Act → World → Prop) (Q : Exit → Act → World → Prop), (∀ v w', R v w' → next (a.put o.dst v) w') → o.upon P a next Q ((callFunc f args).run P w)
def CallOk [Fam] (P : Program) (call : CallF) : Prop :=
  ∀ f args st s st', call f args st = some (s, st') → Sta st st' ∧ ∀ {ρ : Val} {w : World}, Rep ρ st.look w → Wf st → Free ρ st.next st'.next → ∀ {vs : List Value}, denL ρ args = some vs →
    Call1 P f vs.toArray w fun v w' => ∃ ρ', Good st st' s ρ w ρ' v w'

def OpOk [Fam] (P : Program) (o : Oper) (e : Operand → Value) (st st' : St) (s : SVal) (ρ : Val) (w : World) : Prop :=
  ∀ (a : Act) (next : Act → World → Prop) (Q : Exit → Act → World → Prop), (∀ ρ' v w', Good st st' s ρ w ρ' v w' → next (a.put o.dst v) w') → o.upon P a next Q ((execOp e o).run P w)
theorem OpOk.val [Fam] {P : Program} {o : Oper} {e : Operand → Value} {st st' : St} {s : SVal} {ρ : Val} {w : World} {S : Sem Value} (he : execOp e o = (do pure (.value (← S)) : Sem Next)) (h : Ran P S st st' s ρ w) : OpOk P o e st st' s ρ w := by
  intro a next Q hn
  obtain ⟨ρ', v, w', h1, h2⟩ := h
  rw [he, Sem.run_bind, h1, Result.andThen_ok, Sem.run_pure]
  exact hn ρ' v w' h2
theorem OpOk.same [Fam] {P : Program} {o : Oper} {e : Operand → Value} {st : St} {s : SVal} {ρ : Val} {w : World} {v : Value} (hr : Rep ρ st.look w) (h : (execOp e o).run P w = .ok (.value v) w) (hd : den ρ s = some v) : OpOk P o e st st s ρ w := by
  intro a next Q hn
  rw [h]
  exact hn ρ v w ⟨hd, hr, Step.refl _ _ _ _⟩
theorem OpOk.skip [Fam] {P : Program} {o : Oper} {e : Operand → Value} {st st' : St} {ρ : Val} {w w' : World} {S : Sem Unit} (he : execOp e o = (do S; pure .skip : Sem Next)) (h : S.run P w = .ok () w') (hr : Rep ρ st'.look w') (hs : Step st.next st'.next ρ st.look w ρ st'.look w') :
    OpOk P o e st st' (.tup []) ρ w := by
  intro a next Q hn
  rw [he, Sem.run_bind, h, Result.andThen_ok, Sem.run_pure]
  exact hn ρ _ w' ⟨rfl, hr, hs⟩

theorem evs_den {ev : Evl} {e : Operand → Value} {ρ : Val} : ∀ {l : List Operand} {ss : List SVal}, (∀ x, x ∈ l → ∀ s, ev x = some s → den ρ s = some (e x)) → evs ev l = some ss → denL ρ ss = some (l.map e)
  | [], ss, _, h => by cases h; rfl
  | x :: l, ss, he, h => by
    have h : bnd (ev x) (fun v => bnd (evs ev l) fun l => some (v :: l)) = some ss := h
    rw [bnd_some] at h
    obtain ⟨v, h1, h⟩ := h
    rw [bnd_some] at h
    obtain ⟨vs, h2, h3⟩ := h
    cases h3
    exact denL_cons.2 ⟨_, _, he x (.head _) v h1, evs_den (fun y hy => he y (.tail _ hy)) h2, rfl⟩
theorem evps_den {ev : Evl} {e : Operand → Value} {ρ : Val} : ∀ {l : List (Nat × Operand)} {ss : List (Nat × SVal)}, (∀ p ∈ l, ∀ s, ev p.2 = some s → den ρ s = some (e p.2)) → evps ev l = some ss → PairsDen ρ ss (l.map fun p => (p.1, e p.2))
  | [], ss, _, h => by cases h; trivial
  | p :: l, ss, he, h => by
    have h : bnd (ev p.2) (fun v => bnd (evps ev l) fun l => some ((p.1, v) :: l)) = some ss := h
    rw [bnd_some] at h
    obtain ⟨v, h1, h⟩ := h
    rw [bnd_some] at h
    obtain ⟨vs, h2, h3⟩ := h
    cases h3
    exact ⟨rfl, he _ (.head _) v h1, evps_den (fun y hy => he y (.tail _ hy)) h2⟩
theorem evo_den {ev : Evl} {e : Operand → Value} {ρ : Val} {x : Option Operand} {s : Option SVal} (he : ∀ y, x = some y → ∀ s, ev y = some s → den ρ s = some (e y)) (h : evo ev x = some s) : OptDen ρ s (x.map e) := by
  cases x with
  | none => cases h; trivial
  | some x =>
    have h : bnd (ev x) (fun v => some (some v)) = some s := h
    rw [bnd_some] at h
    obtain ⟨v, h1, h2⟩ := h
    cases h2
    exact he x rfl v h1


theorem callTo_ok [Fam] {P : Program} {E : Env} (hE : EnvOk P E) {call : CallF} (hcall : CallOk P call) {o : Oper} {c : Go.Call} (ho : o.op = .call c) {ev : Evl} {st st' : St} {s : SVal} (h : oCall c E call ev st = some (s, st')) :
    Sta st st' ∧ ∀ {ρ : Val} {w : World}, Rep ρ st.look w → Wf st → Free ρ st.next st'.next → ∀ {e : Operand → Value}, (∀ x ∈ o.op.operands.toList, ∀ s, ev x = some s → den ρ s = some (e x)) → OpOk P o e st st' s ρ w := by
  unfold oCall at h
  rw [bnd_some] at h
  obtain ⟨args, h1, h2⟩ := h
  have mem : ∀ {ρ : Val} (e : Operand → Value), (∀ x ∈ o.op.operands.toList, ∀ s, ev x = some s → den ρ s = some (e x)) → ∀ x, x ∈ c.args.toList → ∀ s, ev x = some s → den ρ s = some (e x) := fun e he x hx => he x (by
    rw [ho]
    show x ∈ (_ ++ c.args).toList
    rw [Array.toList_append]
    exact List.mem_append_right _ hx)
  unfold callTo at h2
  split at h2
  · rename_i b hc
    obtain ⟨h3, h4⟩ := builtin_ok hE h2
    refine ⟨h3, fun {ρ w} hr hwf hf e he a next Q hn => ?_⟩
    obtain ⟨ρ', v, w', h5, h6⟩ := h4 hr hwf hf (evs_den (mem e he) h1) o.type (c.args.map fun | .const _ => true | _ => false)
    have : (execOp e o).run P w = .ok (.value v) w' := by
      simp only [execOp, ho, Sem.run_bind, resolve, hc, Sem.run_pure, Result.andThen_ok, invoke]
      rw [map_arr] at h5
      exact h5
    rw [this]
    exact hn ρ' v w' h6
  · rename_i f hc
    rw [bnd_some] at h2
    obtain ⟨fv, h3, h2⟩ := h2
    rw [bnd_some] at h2
    obtain ⟨p, h4, h2⟩ := h2
    obtain ⟨h5, h6⟩ := hcall _ _ _ _ _ h2
    refine ⟨h5, fun {ρ w} hr hwf hf e he a next Q hn => ?_⟩
    obtain ⟨x, y, h7, h8, h9⟩ := asFn_den h4 (he f (by simp [ho, Op.operands, Go.Call.operands, hc]) fv h3)
    have hd := denL_append.2 ⟨_, _, h7, denL_append.2 ⟨_, _, evs_den (mem e he) h1, h8, rfl⟩, rfl⟩
    have : (execOp e o).run P w = (callFunc p.1 (x ++ (c.args.toList.map e ++ y)).toArray).run P w := by
      simp only [execOp, ho, Sem.run_bind, resolve, hc, h9, Deferred.ofValue, Sem.run_pure, Result.andThen_ok, invoke]
      congr 2
      simp
    rw [this]
    exact h6 hr hwf hf hd o a next Q fun v w' ⟨ρ', hg⟩ => hn ρ' v w' hg
  · cases h2

theorem opS_ok [Fam] {P : Program} {E : Env} (hE : EnvOk P E) {call : CallF} (hcall : CallOk P call) {o : Oper} {ev : Evl} {st st' : St} {s : SVal} (h : opS o.op E call ev st = some (s, st')) :
    Sta st st' ∧ ∀ {ρ : Val} {w : World}, Rep ρ st.look w → Wf st → Free ρ st.next st'.next → ∀ {e : Operand → Value}, (∀ x ∈ o.op.operands.toList, ∀ s, ev x = some s → den ρ s = some (e x)) → OpOk P o e st st' s ρ w := by
  cases ho : o.op <;> rw [ho] at h
  case move x =>
    have h : bnd (ev x) (fun v => some (v, st)) = some (s, st') := h
    rw [bnd_some] at h
    obtain ⟨v, h1, h2⟩ := h
    cases h2
    exact ⟨Sta.refl _, fun {ρ w} hr hwf hf e he => OpOk.same hr (by simp [execOp, ho]) (he x (by simp [Op.operands]) _ h1)⟩
  case assign x =>
    have h : bnd (ev x) (fun v => some (v, st)) = some (s, st') := h
    rw [bnd_some] at h
    obtain ⟨v, h1, h2⟩ := h
    cases h2
    exact ⟨Sta.refl _, fun {ρ w} hr hwf hf e he => OpOk.same hr (by simp [execOp, ho]) (he x (by simp [Op.operands]) _ h1)⟩
  case pick c a b =>
    have h : oPick c a b E call ev st = some (s, st') := h
    unfold oPick at h
    rw [bnd_some] at h
    obtain ⟨cv, h1, h⟩ := h
    rw [bnd_some] at h
    obtain ⟨cb, h2, h⟩ := h
    rw [bnd_some] at h
    obtain ⟨v, h3, h4⟩ := h
    cases h4
    refine ⟨Sta.refl _, fun {ρ w} hr hwf hf e he => ?_⟩
    have hc := asB_den h2 (he c (by simp [Op.operands]) _ h1)
    refine OpOk.same (v := if cb then e a else e b) hr (by simp [execOp, ho, hc, asBool]) ?_
    cases cb with
    | true => exact he a (by simp [Op.operands]) _ h3
    | false => exact he b (by simp [Op.operands]) _ h3
  case alloc elem =>
    have h : oAlloc elem E call ev st = some (s, st') := h
    unfold oAlloc at h
    rw [bnd_some] at h
    obtain ⟨z, h1, h⟩ := h
    rw [bnd_some] at h
    obtain ⟨p, h2, h3⟩ := h
    cases h3
    have h2 : newRowS st (scells z) elem none = some (p.1, p.2) := by
      cases z <;> first
        | exact h2
        | (have h2 : bnd (newRowS st _ elem none) (fun p => some p) = some p := h2
           rw [bnd_some] at h2
           obtain ⟨q, h4, h5⟩ := h2
           cases h5
           exact h4)
    obtain ⟨h4, h5⟩ := alloc_ok hE h1 h2
    exact ⟨h4, fun {ρ w} hr hwf hf e he => OpOk.val (by simp only [execOp, ho]) (h5 hr hwf hf)⟩
  case box elem x =>
    have h : oBox elem x E call ev st = some (s, st') := h
    unfold oBox at h
    rw [bnd_some] at h
    obtain ⟨v, h1, h⟩ := h
    rw [bnd_some] at h
    obtain ⟨p, h2, h3⟩ := h
    cases h3
    obtain ⟨h4, h5⟩ := box_ok (P := P) h2
    exact ⟨h4, fun {ρ w} hr hwf hf e he => OpOk.val (by simp only [execOp, ho]) (h5 hr hwf hf (he x (by simp [Op.operands]) _ h1))⟩
  case build t parts =>
    have h : oBuild t parts E call ev st = some (s, st') := h
    unfold oBuild at h
    rw [bnd_some] at h
    obtain ⟨z, h1, h⟩ := h
    rw [bnd_some] at h
    obtain ⟨ps, h2, h⟩ := h
    rw [bnd_some] at h
    obtain ⟨d, h3, h⟩ := h
    rw [bnd_some] at h
    obtain ⟨v, h4, h5⟩ := h
    cases h5
    refine ⟨Sta.refl _, fun {ρ w} hr hwf hf e he => ?_⟩
    obtain ⟨v, h5, h6⟩ := build_ok hE h1 h3 h4 (evps_den (fun p hp => he p.2 (by simp only [Op.operands, List.mem_map]; exact ⟨p, hp, rfl⟩)) h2)
    refine OpOk.same hr (v := v) ?_ h5
    have := h6 w
    simp only [execOp, ho, Sem.run_bind]
    rw [map_arr] at this
    rw [this]
    rfl
  case buildSlice t len parts =>
    have h : oBuildSlice t len parts E call ev st = some (s, st') := h
    unfold oBuildSlice at h
    rw [bnd_some] at h
    obtain ⟨elem, h1, h⟩ := h
    rw [bnd_some] at h
    obtain ⟨size, h2, h⟩ := h
    rw [bnd_some] at h
    obtain ⟨z, h3, h⟩ := h
    rw [bnd_some] at h
    obtain ⟨ps, h4, h⟩ := h
    rw [whn_some, whn_some, bnd_some] at h
    obtain ⟨h5, h6, l, h7, h⟩ := h
    rw [bnd_some] at h
    obtain ⟨p, h8, h9⟩ := h
    cases h9
    obtain ⟨h9, h10⟩ := buildSlice_ok hE h1 h2 h3 h5 h6 h7 h8
    refine ⟨h9, fun {ρ w} hr hwf hf e he => OpOk.val ?_ (h10 hr hwf hf (evps_den (fun p hp => he p.2 (by simp only [Op.operands, List.mem_map]; exact ⟨p, hp, rfl⟩)) h4))⟩
    rw [map_arr]
    simp only [execOp, ho]
  case insert t m k x =>
    have h : oMapUpdate t m k x E call ev st = some (s, st') := h
    unfold oMapUpdate at h
    rw [bnd_some] at h
    obtain ⟨ke, h1, h⟩ := h
    rw [bnd_some] at h
    obtain ⟨mv, h2, h⟩ := h
    rw [bnd_some] at h
    obtain ⟨r, h3, h⟩ := h
    rw [bnd_some] at h
    obtain ⟨es, h4, h⟩ := h
    rw [bnd_some] at h
    obtain ⟨kv, h5, h⟩ := h
    rw [bnd_some] at h
    obtain ⟨xv, h6, h⟩ := h
    rw [bnd_some] at h
    obtain ⟨d, h7, h⟩ := h
    rw [whn_some, bnd_some] at h
    obtain ⟨h8, q, h9, h⟩ := h
    rw [bnd_some] at h
    obtain ⟨st1, h10, h11⟩ := h
    cases h11
    obtain ⟨g1, g2, g3⟩ := mapUpdate_ok hE h1 h3 h4 h7 h8 h9 h10
    refine ⟨g1, fun {ρ w} hr hwf hf e he => ?_⟩
    obtain ⟨w', g4, g5, g6⟩ := g3 hr (he m (by simp [Op.operands]) _ h2) (he k (by simp [Op.operands]) _ h5) (he x (by simp [Op.operands]) _ h6)
    exact OpOk.skip (by simp only [execOp, ho]) g4 g5 g6
  case mapUpdate t m k x =>
    have h : oMapUpdate t m k x E call ev st = some (s, st') := h
    unfold oMapUpdate at h
    rw [bnd_some] at h
    obtain ⟨ke, h1, h⟩ := h
    rw [bnd_some] at h
    obtain ⟨mv, h2, h⟩ := h
    rw [bnd_some] at h
    obtain ⟨r, h3, h⟩ := h
    rw [bnd_some] at h
    obtain ⟨es, h4, h⟩ := h
    rw [bnd_some] at h
    obtain ⟨kv, h5, h⟩ := h
    rw [bnd_some] at h
    obtain ⟨xv, h6, h⟩ := h
    rw [bnd_some] at h
    obtain ⟨d, h7, h⟩ := h
    rw [whn_some, bnd_some] at h
    obtain ⟨h8, q, h9, h⟩ := h
    rw [bnd_some] at h
    obtain ⟨st1, h10, h11⟩ := h
    cases h11
    obtain ⟨g1, g2, g3⟩ := mapUpdate_ok hE h1 h3 h4 h7 h8 h9 h10
    refine ⟨g1, fun {ρ w} hr hwf hf e he => ?_⟩
    obtain ⟨w', g4, g5, g6⟩ := g3 hr (he m (by simp [Op.operands]) _ h2) (he k (by simp [Op.operands]) _ h5) (he x (by simp [Op.operands]) _ h6)
    exact OpOk.skip (by simp only [execOp, ho]) g4 g5 g6
  case load t x =>
    have h : oLoad t x E call ev st = some (s, st') := h
    unfold oLoad at h
    rw [bnd_some] at h
    obtain ⟨v, h1, h⟩ := h
    rw [bnd_some] at h
    obtain ⟨p, h2, h⟩ := h
    rw [bnd_some] at h
    obtain ⟨r, h3, h4⟩ := h
    cases h4
    refine ⟨Sta.refl _, fun {ρ w} hr hwf hf e he => ?_⟩
    obtain ⟨u, h5, h6⟩ := load_ok hE hr h2 h3 (he x (by simp [Op.operands]) _ h1)
    exact OpOk.val (by simp only [execOp, ho]) (Ran.same hr h6 h5)
  case store t x y =>
    have h : oStore t x y E call ev st = some (s, st') := h
    unfold oStore at h
    rw [bnd_some] at h
    obtain ⟨v, h1, h⟩ := h
    rw [bnd_some] at h
    obtain ⟨p, h2, h⟩ := h
    rw [bnd_some] at h
    obtain ⟨u, h3, h⟩ := h
    rw [bnd_some] at h
    obtain ⟨size, h4, h⟩ := h
    rw [whn_some, bnd_some] at h
    obtain ⟨h5, st1, h6, h7⟩ := h
    cases h7
    refine ⟨(storeS_sta h6).1, fun {ρ w} hr hwf hf e he => ?_⟩
    obtain ⟨_, w', g4, g5, g6⟩ := store_ok hE h2 h4 h5 h6 hr (he x (by simp [Op.operands]) _ h1) (he y (by simp [Op.operands]) _ h3)
    exact OpOk.skip (by simp only [execOp, ho]) g4 g5 g6
  case nilCheck x =>
    have h : oNilCheck x E call ev st = some (s, st') := h
    unfold oNilCheck at h
    rw [bnd_some] at h
    obtain ⟨v, h1, h⟩ := h
    rw [bnd_some] at h
    obtain ⟨r, h2, h3⟩ := h
    cases h3
    refine ⟨Sta.refl _, fun {ρ w} hr hwf hf e he => ?_⟩
    obtain ⟨h4, h5⟩ := nilCheck_ok (P := P) h2 (he x (by simp [Op.operands]) _ h1) e ho rfl w
    exact OpOk.same hr h5 h4
  case binOp op t x y ty =>
    have h : oBinOp op t x y ty E call ev st = some (s, st') := h
    unfold oBinOp at h
    rw [bnd_some] at h
    obtain ⟨a, h1, h⟩ := h
    rw [bnd_some] at h
    obtain ⟨b, h2, h⟩ := h
    rw [bnd_some] at h
    obtain ⟨r, h3, h4⟩ := h
    cases h4
    refine ⟨Sta.refl _, fun {ρ w} hr hwf hf e he => ?_⟩
    obtain ⟨u, h5, h6⟩ := binS_ok hE h3 (he x (by simp [Op.operands]) _ h1) (he y (by simp [Op.operands]) _ h2) x y
    exact OpOk.val (by simp only [execOp, ho]) (Ran.same hr (h6 w) h5)
  case unOp op t x =>
    have h : oUnOp op t x E call ev st = some (s, st') := h
    unfold oUnOp at h
    rw [bnd_some] at h
    obtain ⟨a, h1, h⟩ := h
    rw [bnd_some] at h
    obtain ⟨r, h3, h4⟩ := h
    cases h4
    refine ⟨Sta.refl _, fun {ρ w} hr hwf hf e he => ?_⟩
    obtain ⟨u, h5, h6⟩ := unS_ok (P := P) h3 (he x (by simp [Op.operands]) _ h1)
    exact OpOk.val (by simp only [execOp, ho]) (Ran.same hr (h6 w) h5)
  case convert src dst x =>
    have h : oConvert src dst x E call ev st = some (s, st') := h
    unfold oConvert at h
    rw [bnd_some] at h
    obtain ⟨ds, h1, h⟩ := h
    rw [bnd_some] at h
    obtain ⟨dd, h2, h⟩ := h
    rw [bnd_some] at h
    obtain ⟨v, h3, h⟩ := h
    rw [bnd_some] at h
    obtain ⟨r, h4, h5⟩ := h
    cases h5
    refine ⟨Sta.refl _, fun {ρ w} hr hwf hf e he => ?_⟩
    obtain ⟨u, h5, h6⟩ := conv_ok hE h1 h2 hr h4 (he x (by simp [Op.operands]) _ h3)
    exact OpOk.val (by simp only [execOp, ho]) (Ran.same hr h6 h5)
  case makeFunc fn first cap =>
    have h : oMakeFunc fn first cap E call ev st = some (s, st') := h
    unfold oMakeFunc at h
    rw [bnd_some] at h
    obtain ⟨a, h1, h⟩ := h
    rw [bnd_some] at h
    obtain ⟨b, h2, h3⟩ := h
    cases h3
    refine ⟨Sta.refl _, fun {ρ w} hr hwf hf e he => ?_⟩
    refine OpOk.same hr (v := .func fn (first.map e) (cap.map e)) (by simp [execOp, ho, Instr.makeFunc]) ?_
    simp only [den, evs_den (fun y hy => he y (by simp only [Op.operands, Array.toList_append]; exact List.mem_append_left _ hy)) h1, evs_den (fun y hy => he y (by simp only [Op.operands, Array.toList_append]; exact List.mem_append_right _ hy)) h2, Option.bind_some, Option.map_some, map_arr]
  case makeMap t r =>
    have h : oMakeMap t r E call ev st = some (s, st') := h
    unfold oMakeMap at h
    cases r with
    | some x => cases h
    | none =>
      have h : bnd (st.fresh (.map [])) (fun p => some (SVal.map p.1, p.2)) = some (s, st') := h
      rw [bnd_some] at h
      obtain ⟨p, h1, h2⟩ := h
      cases h2
      obtain ⟨h3, h4⟩ := makeMap_ok (P := P) h1
      exact ⟨h3, fun {ρ w} hr hwf hf e he => OpOk.val (by simp only [execOp, ho]; rfl) (h4 hr hwf hf t)⟩
  case makeSlice t l c =>
    have h : oMakeSlice t l c E call ev st = some (s, st') := h
    unfold oMakeSlice at h
    rw [bnd_some] at h
    obtain ⟨elem, h1, h⟩ := h
    rw [bnd_some] at h
    obtain ⟨lv, h2, h⟩ := h
    rw [bnd_some] at h
    obtain ⟨cv, h3, h⟩ := h
    rw [bnd_some] at h
    obtain ⟨ci, h4, h⟩ := h
    rw [bnd_some] at h
    obtain ⟨cn, h5, h⟩ := h
    rw [bnd_some] at h
    obtain ⟨li, h6, h⟩ := h
    rw [bnd_some] at h
    obtain ⟨ln, h7, h⟩ := h
    rw [bnd_some] at h
    obtain ⟨bytes, h8, h⟩ := h
    rw [bnd_some] at h
    obtain ⟨size, h9, h⟩ := h
    rw [bnd_some] at h
    obtain ⟨z, h10, h⟩ := h
    rw [whn_some, whn_some, bnd_some] at h
    obtain ⟨h11, h12, p, h13, h14⟩ := h
    cases h14
    obtain ⟨g1, g2⟩ := makeSlice_ok hE h1 h4 h5 h6 h7 h8 h9 h10 h11 h12 h13
    exact ⟨g1, fun {ρ w} hr hwf hf e he => OpOk.val (by simp only [execOp, ho]) (g2 hr hwf hf (he l (by simp [Op.operands]) _ h2) (he c (by simp [Op.operands]) _ h3))⟩
  case slice t x lo hi mx =>
    have h : oSlice t x lo hi mx E call ev st = some (s, st') := h
    unfold oSlice at h
    rw [bnd_some] at h
    obtain ⟨xv, h1, h⟩ := h
    rw [bnd_some] at h
    obtain ⟨lv, h2, h⟩ := h
    rw [bnd_some] at h
    obtain ⟨hv, h3, h⟩ := h
    rw [bnd_some] at h
    obtain ⟨mv, h4, h⟩ := h
    rw [bnd_some] at h
    obtain ⟨d, h5, h⟩ := h
    rw [bnd_some] at h
    obtain ⟨r, h6, h7⟩ := h
    cases h7
    refine ⟨Sta.refl _, fun {ρ w} hr hwf hf e he => ?_⟩
    obtain ⟨u, h8, h9⟩ := slice_ok hE h5 h6 hr (he x (by simp [Op.operands]) _ h1) (evo_den (fun y hy => he y (by subst hy; simp [Op.operands])) h2) (evo_den (fun y hy => he y (by subst hy; simp [Op.operands])) h3) (evo_den (fun y hy => he y (by subst hy; simp [Op.operands])) h4)
    exact OpOk.val (by simp only [execOp, ho]) (Ran.same hr h9 h8)
  case fieldAddr t x f =>
    have h : oFieldAddr t x f E call ev st = some (s, st') := h
    unfold oFieldAddr at h
    rw [bnd_some] at h
    obtain ⟨fd, h1, h⟩ := h
    rw [bnd_some] at h
    obtain ⟨v, h2, h⟩ := h
    rw [bnd_some] at h
    obtain ⟨p, h3, h⟩ := h
    rw [bnd_some] at h
    obtain ⟨n, h4, h⟩ := h
    rw [whn_some] at h
    obtain ⟨h5, h6⟩ := h
    cases h6
    refine ⟨Sta.refl _, fun {ρ w} hr hwf hf e he => ?_⟩
    obtain ⟨u, h8, h9⟩ := fieldAddr_ok hE h1 h3 h4 h5 (he x (by simp [Op.operands]) _ h2)
    exact OpOk.val (by simp only [execOp, ho]) (Ran.same hr (h9 w) h8)
  case field t x f =>
    have h : oField t x f E call ev st = some (s, st') := h
    unfold oField at h
    rw [bnd_some] at h
    obtain ⟨fd, h1, h⟩ := h
    rw [bnd_some] at h
    obtain ⟨v, h2, h⟩ := h
    rw [bnd_some] at h
    obtain ⟨l, h3, h⟩ := h
    rw [bnd_some] at h
    obtain ⟨r, h4, h5⟩ := h
    cases h5
    refine ⟨Sta.refl _, fun {ρ w} hr hwf hf e he => ?_⟩
    obtain ⟨u, h8, h9⟩ := field_ok hE h1 h3 h4 (he x (by simp [Op.operands]) _ h2)
    exact OpOk.val (by simp only [execOp, ho]) (Ran.same hr (h9 w) h8)
  case indexAddr t x ix =>
    have h : oIndexAddr t x ix E call ev st = some (s, st') := h
    unfold oIndexAddr at h
    rw [bnd_some] at h
    obtain ⟨iv, h1, h⟩ := h
    rw [bnd_some] at h
    obtain ⟨i, h2, h⟩ := h
    rw [bnd_some] at h
    obtain ⟨d, h3, h⟩ := h
    rw [bnd_some] at h
    obtain ⟨xv, h4, h⟩ := h
    rw [bnd_some] at h
    obtain ⟨r, h5, h6⟩ := h
    cases h6
    refine ⟨Sta.refl _, fun {ρ w} hr hwf hf e he => ?_⟩
    obtain ⟨u, h8, h9⟩ := indexAddr_ok hE h3 h2 h5 (he x (by simp [Op.operands]) _ h4) (he ix (by simp [Op.operands]) _ h1)
    exact OpOk.val (by simp only [execOp, ho]) (Ran.same hr (h9 w) h8)
  case index t x ix =>
    have h : oIndex t x ix E call ev st = some (s, st') := h
    unfold oIndex at h
    rw [bnd_some] at h
    obtain ⟨iv, h1, h⟩ := h
    rw [bnd_some] at h
    obtain ⟨i, h2, h⟩ := h
    rw [bnd_some] at h
    obtain ⟨d, h3, h⟩ := h
    rw [bnd_some] at h
    obtain ⟨xv, h4, h⟩ := h
    rw [bnd_some] at h
    obtain ⟨r, h5, h6⟩ := h
    cases h6
    refine ⟨Sta.refl _, fun {ρ w} hr hwf hf e he => ?_⟩
    obtain ⟨u, h8, h9⟩ := index_ok hE h3 h2 h5 (he x (by simp [Op.operands]) _ h4) (he ix (by simp [Op.operands]) _ h1)
    exact OpOk.val (by simp only [execOp, ho]) (Ran.same hr (h9 w) h8)
  case lookup t x ix ok =>
    have h : oLookup t x ix ok E call ev st = some (s, st') := h
    unfold oLookup at h
    rw [bnd_some] at h
    obtain ⟨ke, h1, h⟩ := h
    rw [bnd_some] at h
    obtain ⟨xv, h2, h⟩ := h
    rw [bnd_some] at h
    obtain ⟨es, h3, h⟩ := h
    rw [bnd_some] at h
    obtain ⟨kv, h4, h⟩ := h
    rw [bnd_some] at h
    obtain ⟨d, h5, h⟩ := h
    rw [whn_some, bnd_some] at h
    obtain ⟨h6, r, h7, h⟩ := h
    have hs : st' = st ∧ ((∃ z, r = none ∧ zeroT E ke.2 = some z ∧ s = lookV ok z false) ∨ ∃ p, r = some p ∧ s = lookV ok p.2 true) := by
      cases r with
      | none =>
        have h : bnd (zeroT E ke.2) (fun z => some (lookV ok z false, st)) = some (s, st') := h
        rw [bnd_some] at h
        obtain ⟨z, g1, g2⟩ := h
        cases g2
        exact ⟨rfl, .inl ⟨z, rfl, g1, rfl⟩⟩
      | some p =>
        have h : some (lookV ok p.2 true, st) = some (s, st') := h
        cases h
        exact ⟨rfl, .inr ⟨p, rfl, rfl⟩⟩
    obtain ⟨rfl, hs⟩ := hs
    refine ⟨Sta.refl _, fun {ρ w} hr hwf hf e he => ?_⟩
    obtain ⟨u, h8, h9⟩ := lookup_ok hE h1 hr h3 h5 h6 h7 (he x (by simp [Op.operands]) _ h2) (he ix (by simp [Op.operands]) _ h4) ok hs
    exact OpOk.val (by simp only [execOp, ho]) (Ran.same hr h9 h8)
  case extract t ix =>
    have h : oExtract t ix E call ev st = some (s, st') := h
    unfold oExtract at h
    rw [bnd_some] at h
    obtain ⟨v, h1, h⟩ := h
    rw [bnd_some] at h
    obtain ⟨l, h2, h⟩ := h
    rw [bnd_some] at h
    obtain ⟨r, h3, h4⟩ := h
    cases h4
    refine ⟨Sta.refl _, fun {ρ w} hr hwf hf e he => ?_⟩
    obtain ⟨vs, h5, h6⟩ := asTup_den h2 (he t (by simp [Op.operands]) _ h1)
    obtain ⟨u, h7, h8⟩ := denL_get h5 h3
    refine OpOk.same hr (v := u) ?_ h8
    simp [execOp, ho, h6, Instr.extract, h7]
  case call c =>
    have := callTo_ok hE hcall ho h
    rw [ho] at this
    exact this
  all_goals cases h
end Ev
/-
  Frames; regions in the order of the text.
-/
namespace Ev
open Go Go.RowKit

structure FrOk (ρ : Val) (fr : Fr) (a : Act) : Prop where
  size : a.tmps.size = fr.n
  get : ∀ t s, fr.get t = some s → ∃ v, a.tmps[t]? = some v ∧ den ρ s = some v
  defers : a.defers = []
theorem FrOk.le {ρ ρ' : Val} {fr : Fr} {a : Act} (h : FrOk ρ fr a) (hle : Le ρ ρ') : FrOk ρ' fr a :=
  ⟨h.size, fun t s ht => let ⟨v, h1, h2⟩ := h.get t s ht; ⟨v, h1, den_le hle _ _ h2⟩, h.defers⟩
theorem set_spec {fr fr' : Fr} {d : Nat} {v : SVal} (h : fr.set d v = some fr') : d < fr.n ∧ fr'.n = fr.n ∧ ∀ t, fr'.get t = if t = d then some v else fr.get t := by
  unfold Fr.set at h
  rw [whn_some, bnd_some] at h
  obtain ⟨h1, t, h2, h3⟩ := h
  cases h3
  exact ⟨ble_true h1, rfl, fun m => T.set_spec h2 m⟩
theorem putS_none {fr fr' : Fr} {v : SVal} (h : putS fr none v = some fr') : fr' = fr := by cases h; rfl
theorem putS_some {fr fr' : Fr} {d : Nat} {v : SVal} (h : putS fr (some d) v = some fr') : fr.set d v = some fr' := h
theorem FrOk.put {ρ : Val} {fr fr' : Fr} {a : Act} {d : Option Nat} {s : SVal} {v : Value} (h : FrOk ρ fr a) (hp : putS fr d s = some fr') (hd : den ρ s = some v) : FrOk ρ fr' (a.put d v) := by
  cases d with
  | none => cases putS_none hp; exact h
  | some d =>
    obtain ⟨h1, h2, h3⟩ := set_spec (putS_some hp)
    refine ⟨by simp [Act.put, h.size, h2], fun t s' ht => ?_, h.defers⟩
    rw [h3] at ht
    by_cases e : t = d
    · subst e
      rw [if_pos rfl] at ht
      cases ht
      exact ⟨v, by simp [Act.put, h.size, h1], hd⟩
    · rw [if_neg e] at ht
      obtain ⟨v', h4, h5⟩ := h.get t s' ht
      exact ⟨v', by simp [Act.put, Array.getElem?_setIfInBounds_ne (Ne.symm e), h4], h5⟩
theorem FrOk.eval {ρ : Val} {fr : Fr} {a : Act} (h : FrOk ρ fr a) (x : Operand) (s : SVal) (hs : evS fr x = some s) : den ρ s = some (a.eval x) := by
  cases x with
  | tmp t =>
    obtain ⟨v, h1, h2⟩ := h.get t s hs
    rw [h2]
    simp [Act.eval, Array.getD_eq_getD_getElem?, h1]
  | const v => exact ofV_den hs ρ
  | global g => cases hs
  | func f => cases hs; rfl
/-- what a value says, if it is one of the two -/
def saysB : Value → Option Bool
  | .bool c => some c
  | _ => none
theorem guardIs_spec {b r : Bool} {s : SVal} (h : guardIs b s = some r) {ρ : Val} {v : Value} (hd : den ρ s = some v) : (saysB v == some b) = r := by
  unfold guardIs at h
  split at h
  · cases h; cases hd; rename_i c; cases c <;> cases b <;> rfl
  · cases h; cases hd; cases b <;> rfl
  · cases h
theorem wantS_ok {all : List Oper} {ops : Array Oper} (hall : all = ops.toList) {fr : Fr} {o : Oper} {b : Bool} (h : wantS all fr o.guard = some b) {ρ : Val} {a : Act} (hf : FrOk ρ fr a) : Region.wanted o (yielded ops a.tmps) = b := by
  unfold Region.wanted
  cases hg : o.guard with
  | none => rw [hg] at h; cases h; rfl
  | some p =>
    obtain ⟨j, want⟩ := p
    rw [hg] at h
    have h : bnd (all[j]?) (fun q => bnd q.dst fun d => bnd (fr.get d) fun v => guardIs want v) = some b := h
    rw [bnd_some] at h
    obtain ⟨q, h1, h⟩ := h
    rw [bnd_some] at h
    obtain ⟨d, h2, h⟩ := h
    rw [bnd_some] at h
    obtain ⟨s, h3, h4⟩ := h
    obtain ⟨v, h5, h6⟩ := hf.get d s h3
    have h1 : ops[j]? = some q := by rw [hall] at h1; simpa using h1
    have := guardIs_spec h4 h6
    simp only [yielded, h1, Option.bind_some, h2, h5]
    cases v <;> exact this

theorem opsS_nil {E : Env} {call : CallF} {all : List Oper} {fr : Fr} {st : St} : opsS E call all [] fr st = some (fr, st) := rfl
theorem opsS_cons {E : Env} {call : CallF} {all : List Oper} {o : Oper} {l : List Oper} {fr : Fr} {st : St} : opsS E call all (o :: l) fr st = bnd (wantS all fr o.guard) fun b => @Bool.rec (fun _ => M (Fr × St)) (bnd (putS fr o.dst (.tup [])) fun fr' => opsS E call all l fr' st)
      (bnd (opS o.op E call (evS fr) st) fun p => bnd (putS fr o.dst p.1) fun fr' => opsS E call all l fr' p.2) b := rfl
theorem opsS_ok [Fam] {P : Program} {E : Env} (hE : EnvOk P E) {call : CallF} (hcall : CallOk P call) {ops : Array Oper} : ∀ {l : List Oper} {fr fr' : Fr} {st st' : St}, opsS E call ops.toList l fr st = some (fr', st') →
    Sta st st' ∧ fr'.n = fr.n ∧ ∀ {ρ : Val} {w : World} {a : Act}, Rep ρ st.look w → Wf st → Free ρ st.next st'.next → FrOk ρ fr a → ∀ {Q : Exit → Act → World → Prop},
      (∀ ρ' a' w', FrOk ρ' fr' a' → Rep ρ' st'.look w' → Step st.next st'.next ρ st.look w ρ' st'.look w' → Q .normal a' w') → wpList P ops Q l a w
  | [], fr, fr', st, st', h => by
    rw [opsS_nil] at h
    cases h
    exact ⟨Sta.refl _, rfl, fun {ρ w a} hr _ _ hf Q hq => hq ρ a w hf hr (Step.refl _ _ _ _)⟩
  | o :: l, fr, fr', st, st', h => by
    rw [opsS_cons, bnd_some] at h
    obtain ⟨b, h1, h⟩ := h
    cases b with
    | false =>
      have h : bnd (putS fr o.dst (.tup [])) (fun fr' => opsS E call ops.toList l fr' st) = some (fr', st') := h
      rw [bnd_some] at h
      obtain ⟨fr1, h2, h3⟩ := h
      obtain ⟨h4, h5, h6⟩ := opsS_ok hE hcall h3
      refine ⟨h4, h5.trans ?_, fun {ρ w a} hr hwf hf hfr Q hq => ?_⟩
      · cases hd : o.dst with
        | none => rw [hd] at h2; rw [putS_none h2]
        | some d => rw [hd] at h2; exact (set_spec (putS_some h2)).2.1
      · unfold wpList
        rw [wantS_ok rfl h1 hfr]
        exact h6 hr hwf hf (hfr.put h2 rfl) hq
    | true =>
      have h : bnd (opS o.op E call (evS fr) st) (fun p => bnd (putS fr o.dst p.1) fun fr' => opsS E call ops.toList l fr' p.2) = some (fr', st') := h
      rw [bnd_some] at h
      obtain ⟨⟨s, st1⟩, h2, h⟩ := h
      rw [bnd_some] at h
      obtain ⟨fr1, h3, h4⟩ := h
      obtain ⟨g1, g2⟩ := opS_ok hE hcall h2
      obtain ⟨h5, h6, h7⟩ := opsS_ok hE hcall h4
      have h5 : Sta st1 st' := h5
      refine ⟨g1.trans h5, h6.trans ?_, fun {ρ w a} hr hwf hf hfr Q hq => ?_⟩
      · cases hd : o.dst with
        | none => rw [hd] at h3; rw [putS_none h3]
        | some d => rw [hd] at h3; exact (set_spec (putS_some h3)).2.1
      · unfold wpList
        rw [wantS_ok rfl h1 hfr]
        refine .inl (g2 hr hwf (hf.mono (Nat.le_refl _) h5.next) (e := a.eval) (fun x _ s => hfr.eval x s) a _ Q fun ρ1 v w1 hg => ?_)
        refine h7 hg.rep (hwf.sta g1) (hf.step hg.step g1.next) ((hfr.le hg.step.le).put h3 hg.val) fun ρ2 a2 w2 k1 k2 k3 => ?_
        exact hq ρ2 a2 w2 k1 k2 (hg.step.trans k3 g1.next h5.next)
end Ev
/-
  What an operation leaves alone stays; what waits for what; what is barred.
-/
namespace Ev
open Go Go.RowKit

/-- a step over a part of what is known is a step over all of it -/
theorem frame_step [Fam] {lo hi : Nat} {ρ ρ' : Val} {w w' : World} {G G' H H' : Look} (T : Nat → Prop) (hr : Rep ρ H w) (hsub : ∀ n o, G n = some o → H n = some o) (hr' : Rep ρ' G' w') (hs : Step lo hi ρ G w ρ' G' w')
    (h1 : ∀ n, T n → H' n = G' n) (h2 : ∀ n, ¬ T n → H' n = H n) (h3 : ∀ n, ¬ T n → G' n = G n) : Rep ρ' H' w' ∧ Step lo hi ρ H w ρ' H' w' := by
  have own_up : ∀ r, Owns ρ G r → Owns ρ H r := fun r ⟨m, o, l, a, b, c, d⟩ => ⟨m, o, l, hsub _ _ a, b, c, d⟩
  -- inside or outside
  have split : ∀ n o, H' n = some o → G' n = some o ∨ (H n = some o ∧ G n = none ∧ ¬ T n) := fun n o hn => by
    by_cases ht : T n
    · exact .inl ((h1 n ht) ▸ hn)
    · have hH : H n = some o := (h2 n ht) ▸ hn
      cases hg : G n with
      | none => exact .inr ⟨hH, rfl, ht⟩
      | some o' =>
        have := hsub _ _ hg
        rw [hH] at this
        cases this
        exact .inl ((h3 n ht).trans hg)
  have outer : ∀ n o, H n = some o → G n = none → ∃ l, ρ n = some l ∧ ρ' n = some l ∧ l.blk < w.heap.size ∧ ObjAt ρ o l w ∧ ¬ Owns ρ G l.blk := fun n o hn hg => by
    obtain ⟨l, a, b⟩ := hr.lies n o hn
    refine ⟨l, a, hs.le _ _ a, b.lt, b, fun ⟨m, om, lm, c, d, e, f⟩ => ?_⟩
    have hne : m ≠ n := fun q => by subst q; rw [hg] at c; cases c
    exact hr.sep m n om o lm l (hsub _ _ c) hn hne d e a f
  have inOwn : ∀ n o l, G' n = some o → own o = true → ρ' n = some l → Owns ρ G l.blk ∨ w.heap.size ≤ l.blk := fun n o l a b c => hs.owns _ ⟨n, o, l, a, b, c, rfl⟩
  have mixed : ∀ n o l m o2 l2, G' n = some o → own o = true → ρ' n = some l → H m = some o2 → G m = none → ρ' m = some l2 → l.blk ≠ l2.blk := fun n o l m o2 l2 a b c d e f hq => by
    obtain ⟨l3, g1, g2, g3, g4, g5⟩ := outer m o2 d e
    rw [g2] at f
    cases f
    rcases inOwn n o l a b c with h | h
    · exact g5 (hq ▸ h)
    · omega
  have up : ∀ n o, H' n = some o → own o = true → ∀ l, ρ' n = some l → Owns ρ H l.blk ∨ w.heap.size ≤ l.blk := fun n o hn hown l hl => by
    rcases split n o hn with h | ⟨h, hg, _⟩
    · exact (hs.owns _ ⟨n, o, l, h, hown, hl, rfl⟩).imp (own_up _) id
    · obtain ⟨l3, c, d, _⟩ := outer n o h hg
      rw [d] at hl
      cases hl
      exact .inl ⟨n, o, l, h, hown, c, rfl⟩
  have opq_up : ∀ n t l, T n → G' n = some (.opq t) → w.heap.size ≤ l.blk → Opq ρ' G' t l w.heap.size w' → Opq ρ' H' t l w.heap.size w' := fun n t l _ _ _ ⟨fp, f1, f2⟩ => by
    refine ⟨fp, fun r hr => ⟨(f1 r hr).1, (f1 r hr).2.1, fun ⟨m, o, l2, a, b, c, d⟩ => ?_⟩, f2⟩
    rcases split m o a with h | ⟨h, hg, _⟩
    · exact (f1 r hr).2.2 ⟨m, o, l2, h, b, c, d⟩
    · obtain ⟨l3, c1, c2, c3, _⟩ := outer m o h hg
      rw [c2] at c
      cases c
      have := (f1 r hr).1
      omega
  have hstep : Step lo hi ρ H w ρ' H' w' := by
    refine ⟨hs.le, hs.off, hs.os, hs.tape, hs.output, hs.size, fun r hr0 hno => hs.kept r hr0 fun h => hno (own_up r h), fun r ⟨n, o, l, hn, hown, hl, hb⟩ => hb ▸ up n o hn hown l hl, fun n o hn => ?_⟩
    rcases split n o hn with h | ⟨h, hg, _⟩
    · rcases hs.fine n o h with q | q | ⟨t, l, q1, q2, q3, q4⟩
      · exact .inl q
      · exact .inr (.inl (hsub _ _ q))
      · by_cases hT : T n
        · subst q1
          exact .inr (.inr ⟨t, l, rfl, q2, q3, opq_up n t l hT h q3 q4⟩)
        · have : G n = some o := (h3 n hT).symm.trans h
          exact .inr (.inl (hsub _ _ this))
    · exact .inr (.inl h)
  refine ⟨⟨fun n o hn => ?_, fun n m o1 o2 l1 l2 hn hm hne hown hl1 hl2 => ?_, fun n t hn => ?_⟩, hstep⟩
  · rcases split n o hn with h | ⟨h, hg, _⟩
    · exact hr'.lies n o h
    · obtain ⟨l, a, b, c, d, e⟩ := outer n o h hg
      exact ⟨l, b, d.keep hs.le (hs.kept _ c e)⟩
  · rcases split n o1 hn with h | ⟨h, hg, _⟩
    · rcases split m o2 hm with k | ⟨k, kg, _⟩
      · exact hr'.sep n m o1 o2 l1 l2 h k hne hown hl1 hl2
      · exact mixed n o1 l1 m o2 l2 h hown hl1 k kg hl2
    · obtain ⟨l, a, b, hlt, _, _⟩ := outer n o1 h hg
      rw [b] at hl1
      cases hl1
      rcases split m o2 hm with k | ⟨k, kg, _⟩
      · cases ho2 : own o2 with
        | true => exact (mixed m o2 l2 n o1 l1 k ho2 hl2 h hg b).symm
        | false =>
          rcases hs.fine m o2 k with q | q | ⟨t, l, q1, q2, q3, q4⟩
          · rw [ho2] at q; cases q
          · have q := hsub _ _ q
            obtain ⟨l3, c, _⟩ := hr.lies m o2 q
            have := hs.le _ _ c
            rw [hl2] at this
            cases this
            exact hr.sep n m o1 o2 l1 l2 h q hne hown a c
          · rw [hl2] at q2
            cases q2
            omega
      · obtain ⟨l3, c, d, _⟩ := outer m o2 k kg
        rw [d] at hl2
        cases hl2
        exact hr.sep n m o1 o2 l1 l2 h k hne hown a c
  · rcases hstep.fine n _ hn with q | q | ⟨t2, l, q1, q2, q3, q4⟩
    · cases q
    · exact opq_old hr hstep q
    · cases q1
      exact ⟨l, q2, q4.low (Nat.zero_le _)⟩

/-- a step with a wider range -/
theorem Step.wide [Fam] {a b a' b' : Nat} {ρ ρ' : Val} {H H' : Look} {w w' : World} (h : Step a b ρ H w ρ' H' w') (h1 : a' ≤ a) (h2 : b ≤ b') : Step a' b' ρ H w ρ' H' w' :=
  ⟨h.le, fun k hk => h.off k (by omega), h.os, h.tape, h.output, h.size, h.kept, h.owns, h.fine⟩
theorem Step.trans' [Fam] {a b : Nat} {ρ ρ1 ρ2 : Val} {H H1 H2 : Look} {w w1 w2 : World} (h : Step a b ρ H w ρ1 H1 w1) (k : Step a b ρ1 H1 w1 ρ2 H2 w2) : Step a b ρ H w ρ2 H2 w2 where
  le := h.le.trans k.le
  off := fun n hn => (k.off n hn).trans (h.off n hn)
  os := k.os.trans h.os
  tape := k.tape.trans h.tape
  output := k.output.trans h.output
  size := Nat.le_trans h.size k.size
  kept := fun r hr hn => (k.kept r (Nat.lt_of_lt_of_le hr h.size) fun ho => (h.owns r ho).elim hn (fun h' => by omega)).trans (h.kept r hr hn)
  owns := fun r ho => (k.owns r ho).elim (h.owns r) (fun h' => .inr (Nat.le_trans h.size h'))
  fine := fun n o ho => by
    rcases k.fine n o ho with h1 | h1 | ⟨t, l, h1, h2, h3, h4⟩
    · exact .inl h1
    · rcases h.fine n o h1 with h2 | h2 | ⟨t, l, h2, h3, h4, h5⟩
      · exact .inl h2
      · exact .inr (.inl h2)
      · exact .inr (.inr ⟨t, l, h2, k.le _ _ h3, h4, h5.step k⟩)
    · exact .inr (.inr ⟨t, l, h1, h2, Nat.le_trans h.size h3, h4.low h.size⟩)

/-- one operation waits for another -/
inductive Waits (ops : Array Oper) : Nat → Nat → Prop where
  | one {k : Nat} {o : Oper} {e : Edge} : ops[k]? = some o → e ∈ o.after → Region.binds .any e = true → Waits ops k e.on
  | more {k j : Nat} {o : Oper} {e : Edge} : ops[k]? = some o → e ∈ o.after → Region.binds .any e = true → Waits ops e.on j → Waits ops k j

theorem testBit_fold {f : Nat → Edge → Nat} {Q : Edge → Nat → Prop} (hf : ∀ s e j, (f s e).testBit j = true → s.testBit j = true ∨ Q e j) : ∀ (l : List Edge) (s j : Nat), (l.foldl f s).testBit j = true → s.testBit j = true ∨ ∃ e ∈ l, Q e j
  | [], s, j, h => .inl h
  | e :: l, s, j, h => by
    rcases testBit_fold hf l (f s e) j h with h1 | ⟨e', h1, h2⟩
    · rcases hf s e j h1 with h2 | h2
      · exact .inl h2
      · exact .inr ⟨e, .head _, h2⟩
    · exact .inr ⟨e', .tail _ h1, h2⟩
theorem before_fold (ops : Array Oper) : ∀ (l : List Oper) (acc : Array Nat), (∀ i, l[i]? = ops[acc.size + i]?) → (∀ k j, (acc.getD k 0).testBit j = true → Waits ops k j) →
    ∀ k j, (((l.foldl (fun acc o => acc.push (o.after.foldl (fun s e => if Region.binds .any e then s ||| 2 ^ e.on ||| acc.getD e.on 0 else s) 0)) acc)).getD k 0).testBit j = true → Waits ops k j
  | [], acc, _, h => h
  | o :: l, acc, hl, h => by
    rw [List.foldl_cons]
    refine before_fold ops l _ (fun i => ?_) fun k j hk => ?_
    · have := hl (i + 1)
      simp only [List.getElem?_cons_succ] at this
      rw [this, Array.size_push]
      congr 1
      omega
    · have ho : ops[acc.size]? = some o := by have := hl 0; simpa using this.symm
      rw [Array.getD_eq_getD_getElem?, Array.getElem?_push] at hk
      split at hk
      · rename_i e
        subst e
        simp only [Option.getD_some] at hk
        rw [← Array.foldl_toList] at hk
        rcases testBit_fold (Q := fun e j => Region.binds .any e = true ∧ (j = e.on ∨ (acc.getD e.on 0).testBit j = true)) (fun s e j hb => by
          split at hb
          · rename_i hbd
            rw [Nat.testBit_or, Nat.testBit_or, Bool.or_eq_true, Bool.or_eq_true] at hb
            rcases hb with (hb | hb) | hb
            · exact .inl hb
            · rw [Nat.testBit_two_pow] at hb
              exact .inr ⟨hbd, .inl (by simpa using (of_decide_eq_true hb).symm)⟩
            · exact .inr ⟨hbd, .inr hb⟩
          · exact .inl hb) o.after.toList 0 j hk with h1 | ⟨e, h1, h2, h3⟩
        · simp at h1
        · have h1 : e ∈ o.after := by simpa using h1
          rcases h3 with rfl | h3
          · exact .one ho h1 h2
          · exact .more ho h1 h2 (h _ _ h3)
      · rename_i hne
        rw [← Array.getD_eq_getD_getElem?] at hk
        exact h k j hk
theorem before_waits {ops : Array Oper} {k j : Nat} (h : (((Region.before ops).toList).getD k 0).testBit j = true) : Waits ops k j := by
  unfold Region.before at h
  rw [← Array.foldl_toList] at h
  refine before_fold ops ops.toList #[] (fun i => by simp) (fun k j hk => by simp at hk) k j ?_
  rw [Array.getD_eq_getD_getElem?]
  rw [List.getD_eq_getElem?_getD] at h
  simpa using h

theorem banned_nil (n : Nat) : banned n [] = false := rfl
theorem banned_cons (n : Nat) (p : Nat × Nat) (l : List (Nat × Nat)) : banned n (p :: l) = true ↔ (p.1 ≤ n ∧ n < p.2) ∨ banned n l = true := by
  show @Bool.rec (fun _ => Bool) (banned n l) (@Bool.rec (fun _ => Bool) (banned n l) true (Nat.ble (Nat.succ n) p.2)) (Nat.ble p.1 n) = true ↔ _
  cases h1 : Nat.ble p.1 n with
  | false =>
    have := ble_false h1
    simp only
    constructor
    · intro h; exact .inr h
    · rintro (h | h)
      · omega
      · exact h
  | true =>
    have h1 := ble_true h1
    cases h2 : Nat.ble (Nat.succ n) p.2 with
    | false =>
      have := ble_false h2
      simp only
      constructor
      · intro h; exact .inr h
      · rintro (h | h)
        · omega
        · exact h
    | true => have := ble_true h2; simp; left; omega
theorem banned_ones (n : Nat) (r : List (Nat × Nat)) : ∀ l, banned n (ones r l) = true ↔ n ∈ l ∨ banned n r = true
  | [] => by simp [ones]
  | m :: l => by
    rw [ones, banned_cons, banned_ones n r l, List.mem_cons]
    constructor
    · rintro (h | h | h)
      · exact .inl (.inl (by omega))
      · exact .inl (.inr h)
      · exact .inr h
    · rintro ((h | h) | h)
      · exact .inl (by omega)
      · exact .inr (.inl h)
      · exact .inr (.inr h)
theorem below_cons (m n : Nat) (l : List Nat) : below m (n :: l) = @Bool.rec (fun _ => List Nat) (below m l) (n :: below m l) (Nat.ble (Nat.succ n) m) := rfl
theorem mem_below {m n : Nat} : ∀ {l : List Nat}, n ∈ below m l ↔ n ∈ l ∧ n < m
  | [] => by simp [below]
  | x :: l => by
    rw [below_cons]
    cases h : Nat.ble (Nat.succ x) m with
    | true =>
      have := ble_true h
      simp only [List.mem_cons, mem_below (l := l)]
      constructor
      · rintro (h | h)
        · exact ⟨.inl h, by omega⟩
        · exact ⟨.inr h.1, h.2⟩
      · rintro ⟨h | h, h2⟩
        · exact .inl h
        · exact .inr ⟨h, h2⟩
    | false =>
      have := ble_false h
      simp only [List.mem_cons, mem_below (l := l)]
      constructor
      · rintro h; exact ⟨.inr h.1, h.2⟩
      · rintro ⟨h | h, h2⟩
        · omega
        · exact ⟨h, h2⟩
/-- what is barred -/
theorem banned_barred (before : List Nat) (k n : Nat) (r : List (Nat × Nat)) : ∀ ts, banned n (barred before k ts r) = true ↔ banned n r = true ∨ ∃ t ∈ ts, t.j ≠ k ∧ ordered before t.j k = false ∧ ((t.lo ≤ n ∧ n < t.hi) ∨ n ∈ t.log)
  | [] => by simp [barred]
  | t :: ts => by
    have ih := banned_barred before k n r ts
    have e : barred before k (t :: ts) r = @Bool.rec (fun _ => List (Nat × Nat)) (@Bool.rec (fun _ => List (Nat × Nat)) ((t.lo, t.hi) :: ones (barred before k ts r) t.log) (barred before k ts r) (ordered before t.j k)) (barred before k ts r) (Nat.beq t.j k) := rfl
    rw [e]
    simp only [List.mem_cons, exists_eq_or_imp]
    cases h1 : Nat.beq t.j k with
    | true =>
      have h1 := beq_true h1
      simp only [ih]
      constructor
      · rintro (h | h)
        · exact .inl h
        · exact .inr (.inr h)
      · rintro (h | h | h)
        · exact .inl h
        · exact absurd h1 h.1
        · exact .inr h
    | false =>
      have h1 := beq_false h1
      cases h2 : ordered before t.j k with
      | true =>
        simp only [ih]
        constructor
        · rintro (h | h)
          · exact .inl h
          · exact .inr (.inr h)
        · rintro (h | h | h)
          · exact .inl h
          · cases h.2.1
          · exact .inr h
      | false =>
        simp only [banned_cons, banned_ones, ih]
        constructor
        · rintro (h | h | h | h)
          · exact .inr (.inl ⟨h1, trivial, .inl h⟩)
          · exact .inr (.inl ⟨h1, trivial, .inr h⟩)
          · exact .inl h
          · exact .inr (.inr h)
        · rintro (h | ⟨_, _, h | h⟩ | h)
          · exact .inr (.inr (.inl h))
          · exact .inl h
          · exact .inr (.inl h)
          · exact .inr (.inr (.inr h))
theorem banned_barredOld (before : List Nat) (k m n : Nat) (r : List (Nat × Nat)) : ∀ ts, banned n (barredOld before k m ts r) = true ↔ banned n r = true ∨ ∃ t ∈ ts, t.j ≠ k ∧ ordered before t.j k = false ∧ n ∈ t.log ∧ n < m
  | [] => by simp [barredOld]
  | t :: ts => by
    have ih := banned_barredOld before k m n r ts
    have e : barredOld before k m (t :: ts) r = @Bool.rec (fun _ => List (Nat × Nat)) (@Bool.rec (fun _ => List (Nat × Nat)) (ones (barredOld before k m ts r) (below m t.log)) (barredOld before k m ts r) (ordered before t.j k)) (barredOld before k m ts r) (Nat.beq t.j k) := rfl
    rw [e]
    simp only [List.mem_cons, exists_eq_or_imp]
    cases h1 : Nat.beq t.j k with
    | true =>
      have h1 := beq_true h1
      simp only [ih]
      constructor
      · rintro (h | h)
        · exact .inl h
        · exact .inr (.inr h)
      · rintro (h | h | h)
        · exact .inl h
        · exact absurd h1 h.1
        · exact .inr h
    | false =>
      have h1 := beq_false h1
      cases h2 : ordered before t.j k with
      | true =>
        simp only [ih]
        constructor
        · rintro (h | h)
          · exact .inl h
          · exact .inr (.inr h)
        · rintro (h | h | h)
          · exact .inl h
          · cases h.2.1
          · exact .inr h
      | false =>
        simp only [banned_ones, ih, mem_below]
        constructor
        · rintro (h | h | h)
          · exact .inr (.inl ⟨h1, trivial, h⟩)
          · exact .inl h
          · exact .inr (.inr h)
        · rintro (h | ⟨_, _, h⟩ | h)
          · exact .inr (.inl h)
          · exact .inl h
          · exact .inr (.inr h)
theorem ordered_symm (before : List Nat) (j k : Nat) : ordered before j k = ordered before k j := by
  unfold ordered
  rw [Bool.or_comm]
theorem ordered_waits [Fam] {ops : Array Oper} {j k : Nat} (h : ordered (Region.before ops).toList j k = true) : Waits ops k j ∨ Waits ops j k := by
  unfold ordered at h
  rw [Bool.or_eq_true] at h
  exact h.imp before_waits before_waits
theorem allOrdered_spec {before : List Nat} {j : Nat} : ∀ {m : Nat}, allOrdered before j m = true → ∀ k, k < m → ordered before k j = true
  | 0, _, k, hk => by omega
  | m + 1, h, k, hk => by
    unfold allOrdered at h
    split at h
    · rename_i h1
      by_cases e : k = m
      · subst e; exact h1
      · exact allOrdered_spec h k (by omega)
    · cases h
theorem subL_spec : ∀ {l b : List Nat}, subL l b = true → ∀ n ∈ l, n ∈ b
  | [], _, _, n, hn => by cases hn
  | x :: l, b, h, n, hn => by
    unfold subL at h
    split at h
    · rename_i h1
      rcases List.mem_cons.1 hn with rfl | hn
      · exact any_mem h1
      · exact subL_spec h n hn
    · cases h
theorem lateOk_spec {before : List Nat} {sup : List Tch} : ∀ {ts : List Tch}, lateOk before sup ts = true → ∀ t ∈ ts, ∀ n ∈ t.log, (∀ k, k < t.j → ordered before k t.j = true) ∨ ∃ s ∈ sup, s.j = t.j ∧ n ∈ s.log
  | [], _, t, ht, _, _ => by cases ht
  | x :: ts, h, t, ht, n, hn => by
    unfold lateOk at h
    split at h
    · rename_i h0
      rcases List.mem_cons.1 ht with rfl | ht
      · rw [h0] at hn; cases hn
      · exact lateOk_spec h t ht n hn
    · split at h
      · rename_i h1
        rcases List.mem_cons.1 ht with rfl | ht
        · exact .inl fun k hk => allOrdered_spec h1 k hk
        · exact lateOk_spec h t ht n hn
      · split at h
        · rename_i h1
          rcases List.mem_cons.1 ht with rfl | ht
          · rw [List.any_eq_true] at h1
            obtain ⟨s, hs, h2⟩ := h1
            split at h2
            · rename_i h3
              exact .inr ⟨s, hs, beq_true h3, subL_spec h2 n hn⟩
            · cases h2
          · exact lateOk_spec h t ht n hn
        · cases h
end Ev
