/- The plain law of MergeLater: a note put behind others, and its place in their order. -/
import Derived.Test.YthnblhbdfpmolaaMLatmxbo
namespace Go.Proofs.Ythnblhbdfpmolaa
theorem Whole.places {l : List NoteD} (W : Whole l) : placesE l = 0 := by
  refine placesE_ok W.apart (fun n hn => ?_)
  rcases h : missOne l n with _ | _
  · rfl
  · obtain ⟨d, _, h0, ha⟩ := (missOne_iff (W.right n hn)).1 h
    exfalso
    have key : ∀ {m : NoteD}, m ∈ l → m.dev = (d : Int) → m.seq = sqN n d → False := by
      intro m hm hd hq
      rw [List.any_eq_false] at ha
      exact ha m hm (isK_iff.2 ⟨hd, hq⟩)
    unfold sqN at h0 key
    by_cases hd : (d : Int) = n.dev
    · rw [if_pos hd] at h0
      obtain ⟨m, hm, hmd, hmq⟩ := W.prev n hn (by omega)
      exact key hm (hmd.trans hd.symm) (by rw [if_pos hd]; exact hmq)
    · rw [if_neg hd] at h0
      obtain ⟨m, hm, hmd, hmq⟩ := W.seen n hn d (by omega)
      exact key hm hmd (by rw [if_neg hd]; exact hmq)
theorem Whole.notes {l : List NoteD} (W : Whole l) (hl : l.length ≤ 10000) : notesR l = true := by
  simp only [notesR, Bool.and_eq_true, decide_eq_true_eq, List.all_eq_true]
  exact ⟨hl, W.right⟩
/-- What a note needs that is put behind others. -/
structure NextN (l : List NoteD) (n : NoteD) : Prop where
  right : n.right = true
  top : ∀ x, x ∈ l → x.dev = n.dev → x.seq < n.seq
  prev : 0 < n.seq → ∃ m, m ∈ l ∧ m.dev = n.dev ∧ m.seq = n.seq - 1
  seen : ∀ d : Int, 0 < seenN n.af d → ∃ m, m ∈ l ∧ m.dev = d ∧ m.seq = seenN n.af d - 1
theorem NextN.whole {l : List NoteD} {n : NoteD} (h : NextN l n) (W : Whole l) : Whole (l ++ [n]) where
  apart := apart_snoc W.apart (fun m hm hk => by have := h.top m hm hk.1; omega)
  right x hx := by
    rcases List.mem_append.1 hx with hx | hx
    · exact W.right x hx
    · rw [List.mem_singleton.1 hx]; exact h.right
  prev x hx h0 := by
    rcases List.mem_append.1 hx with hx | hx
    · obtain ⟨m, hm, h1⟩ := W.prev x hx h0
      exact ⟨m, List.mem_append.2 (.inl hm), h1⟩
    · obtain rfl := List.mem_singleton.1 hx
      obtain ⟨m, hm, h1⟩ := h.prev h0
      exact ⟨m, List.mem_append.2 (.inl hm), h1⟩
  seen x hx d h0 := by
    rcases List.mem_append.1 hx with hx | hx
    · obtain ⟨m, hm, h1⟩ := W.seen x hx d h0
      exact ⟨m, List.mem_append.2 (.inl hm), h1⟩
    · obtain rfl := List.mem_singleton.1 hx
      obtain ⟨m, hm, h1⟩ := h.seen d h0
      exact ⟨m, List.mem_append.2 (.inl hm), h1⟩
theorem NextN.no {l : List NoteD} {n : NoteD} (h : NextN l n) (W : Whole l) {x : NoteD} (hx : x ∈ l) : beforeN n x = false := by
  unfold beforeN
  rw [h.right, W.right x hx, Bool.true_and, Bool.true_and]
  unfold befN
  split
  · rename_i hd
    have := h.top x hx hd.symm
    exact decide_eq_false (by omega)
  · refine decide_eq_false (fun hs => ?_)
    have hq := (right_rng h.right).2.1.1
    obtain ⟨m, hm, hd, hmq⟩ := W.seen x hx n.dev (by omega)
    have := h.top m hm hd
    omega
theorem beforeN_self (n : NoteD) : beforeN n n = false := by
  unfold beforeN befN
  simp
theorem at!_left {l : List NoteD} {n : NoteD} {i : Nat} (h : i < l.length) : at! (l ++ [n]) i = at! l i := by
  rw [at!_eq h, at!_eq (by simp; omega), List.getElem_append_left h]
theorem at!_last {l : List NoteD} {n : NoteD} : at! (l ++ [n]) l.length = n := by
  rw [at!_eq (by simp)]; simp
theorem at!_mem {l : List NoteD} {i : Nat} (h : i < l.length) : at! l i ∈ l := by rw [at!_eq h]; exact List.getElem_mem h
def notN (N : Nat) (l : List Nat) : List Nat := l.filter fun i => decide (i ≠ N)
theorem mem_notN {N i : Nat} {l : List Nat} (h : i ≠ N) : i ∈ notN N l ↔ i ∈ l := by simp [notN, h]
theorem notN_app {N : Nat} {l m : List Nat} : notN N (l ++ m) = notN N l ++ notN N m := by simp [notN]
theorem notN_one {N i : Nat} (h : i ≠ N) : notN N [i] = [i] := by simp [notN, h]
theorem notN_self {N : Nat} : notN N [N] = [] := by simp [notN]
theorem notN_id {N : Nat} {l : List Nat} (h : N ∉ l) : notN N l = l := by
  unfold notN
  rw [List.filter_eq_self]
  intro a ha
  have : a ≠ N := fun hc => h (hc ▸ ha)
  simpa using this
theorem rdyR_later {l : List NoteD} {n : NoteD} (W : Whole l) (h : NextN l n) {out : List Nat} {i : Nat} (hi : i < l.length) : rdyR (l ++ [n]) out i = true ↔ rdyR l (notN l.length out) i = true := by
  rw [rdyR_iff, rdyR_iff, mem_notN (by omega)]
  constructor
  · rintro ⟨h1, h2⟩
    refine ⟨h1, fun k hk => ?_⟩
    have := h2 k (by simp; omega)
    rw [at!_left hk, at!_left hi] at this
    rw [mem_notN (by omega)]
    exact this
  · rintro ⟨h1, h2⟩
    refine ⟨h1, fun k hk => ?_⟩
    simp only [List.length_append, List.length_singleton] at hk
    rw [at!_left hi]
    rcases Nat.lt_or_ge k l.length with hk' | hk'
    · rw [at!_left hk']
      have := h2 k hk'
      rw [mem_notN (by omega)] at this
      exact this
    · obtain rfl : k = l.length := by omega
      rw [at!_last]
      exact .inr (h.no W (at!_mem hi))
theorem bestR_is {L : List NoteD} {out : List Nat} {b : Nat} (ha : L.Pairwise ApartN) (hb : b < L.length) (hr : rdyR L out b = true) (h : ∀ i, i < L.length → rdyR L out i = true → i = b ∨ firstN (at! L b) (at! L i) = true) : bestR L out L.length = some b := by
  have hs := bestR_spec (l := L) (out := out) ha L.length (Nat.le_refl _)
  rcases hc : bestR L out L.length with _ | c
  · rw [hc] at hs
    rw [hs b hb] at hr; cases hr
  · rw [hc] at hs
    obtain ⟨⟨h1, h2⟩, h3⟩ := hs
    rcases h c h1 h2 with h4 | h4
    · rw [h4]
    · rcases h3 b hb hr with h5 | h5
      · rw [h5]
      · exact absurd h5 (firstN_asymm h4)
theorem take_next {o : List Nat} {s : Nat} (h : s < o.length) : o.take (s + 1) = o.take s ++ [o[s]] := List.take_succ_eq_append_getElem h
theorem later_loop {l : List NoteD} {n : NoteD} {o : List Nat} (O : OrdOK l o) (h : NextN l n) : ∀ (k : Nat) (out : List Nat) (s : Nat), notN l.length out = o.take s → s ≤ l.length →
    ((l.length ∈ out ∧ k = l.length - s) ∨ (l.length ∉ out ∧ k = l.length - s + 1)) → ∃ q, ordLoopR (l ++ [n]) k out = (q, 0) ∧ notN l.length q = o ∧ q.length = out.length + k
  | 0, out, s, hf, hs, hk => by
    have hsl : s = l.length := by omega
    refine ⟨out, rfl, ?_, rfl⟩
    rw [hf, hsl, ← O.len, List.take_length]
  | k + 1, out, s, hf, hs, hk => by
    have W := O.whole
    have ha := (h.whole W).apart
    have hlen : (l ++ [n]).length = l.length + 1 := by simp
    have hgo : ∀ (b s' : Nat), bestR (l ++ [n]) out (l ++ [n]).length = some b → notN l.length (out ++ [b]) = o.take s' → s' ≤ l.length → ((l.length ∈ out ++ [b] ∧ k = l.length - s') ∨ (l.length ∉ out ++ [b] ∧ k = l.length - s' + 1)) →
        ∃ q, ordLoopR (l ++ [n]) (k + 1) out = (q, 0) ∧ notN l.length q = o ∧ q.length = out.length + (k + 1) := by
      intro b s' hb hf' hs' hk'
      obtain ⟨q, h1, h2, h3⟩ := later_loop O h k (out ++ [b]) s' hf' hs' hk'
      refine ⟨q, ?_, h2, by rw [h3]; simp; omega⟩
      unfold ordLoopR
      rw [hb]
      exact h1
    have hself : ∀ {i : Nat}, i ∈ out → rdyR (l ++ [n]) out i = true → False := fun hi hr => (rdyR_iff.1 hr).1 hi
    rcases Nat.lt_or_ge s l.length with hsl | hsl
    · have hso : s < o.length := by rw [O.len]; exact hsl
      obtain ⟨h1, h2, h3⟩ := O.rdy hso
      have hne : o[s] ≠ l.length := by omega
      have hr : rdyR (l ++ [n]) out o[s] = true := (rdyR_later W h h1).2 (by rw [hf]; exact h2)
      have hi : ∀ i, i < l.length → rdyR (l ++ [n]) out i = true → i = o[s] ∨ firstN (at! (l ++ [n]) o[s]) (at! (l ++ [n]) i) = true := by
        intro i hi hir
        have := h3 i hi (by rw [← hf]; exact (rdyR_later W h hi).1 hir)
        rw [at!_left h1, at!_left hi]
        exact this
      have hstep : notN l.length (out ++ [o[s]]) = o.take (s + 1) := by rw [notN_app, notN_one hne, hf, take_next hso]
      rcases hk with ⟨hN, hk⟩ | ⟨hN, hk⟩
      · refine hgo o[s] (s + 1) (bestR_is ha (by omega) hr (fun i hil hir => ?_)) hstep (by omega) (.inl ⟨List.mem_append.2 (.inl hN), by omega⟩)
        rcases Nat.lt_or_ge i l.length with h4 | h4
        · exact hi i h4 hir
        · obtain rfl : i = l.length := by omega
          exact (hself hN hir).elim
      · by_cases hb : rdyR (l ++ [n]) out l.length = true ∧ firstN (at! (l ++ [n]) l.length) (at! (l ++ [n]) o[s]) = true
        · refine hgo l.length s (bestR_is ha (by omega) hb.1 (fun i hil hir => ?_)) (by rw [notN_app, notN_self, List.append_nil, hf]) hs (.inl ⟨by simp, by omega⟩)
          rcases Nat.lt_or_ge i l.length with h4 | h4
          · rcases hi i h4 hir with h5 | h5
            · rw [h5]; exact .inr hb.2
            · exact .inr (firstN_trans hb.2 h5)
          · exact .inl (by omega)
        · refine hgo o[s] (s + 1) (bestR_is ha (by omega) hr (fun i hil hir => ?_)) hstep (by omega) (.inr ⟨?_, by omega⟩)
          · rcases Nat.lt_or_ge i l.length with h4 | h4
            · exact hi i h4 hir
            · obtain rfl : i = l.length := by omega
              right
              have hap : ApartN (at! (l ++ [n]) o[s]) (at! (l ++ [n]) l.length) := by
                rw [at!_left h1, at!_last]
                intro hk
                have := h.top _ (at!_mem h1) hk.1
                have := hk.2
                omega
              rcases firstN_total hap with h5 | h5
              · exact h5
              · exact absurd ⟨hir, h5⟩ hb
          · rw [List.mem_append, List.mem_singleton]
            rintro (h4 | h4)
            · exact hN h4
            · exact hne h4.symm
    · obtain rfl : s = l.length := by omega
      rcases hk with ⟨hN, hk⟩ | ⟨hN, hk⟩
      · omega
      · rw [← O.len, List.take_length, O.len] at hf
        have hall : ∀ i, i < l.length → i ∈ out := by
          intro i hi
          obtain ⟨t, ht, he⟩ := O.surj hi
          rw [← mem_notN (N := l.length) (by omega), hf, ← he]
          exact List.getElem_mem ht
        have hr : rdyR (l ++ [n]) out l.length = true := by
          rw [rdyR_iff]
          refine ⟨hN, fun j hj => ?_⟩
          rcases Nat.lt_or_ge j l.length with h4 | h4
          · exact .inl (hall j h4)
          · obtain rfl : j = l.length := by omega
            exact .inr (beforeN_self _)
        refine hgo l.length l.length (bestR_is ha (by omega) hr (fun i hil hir => ?_)) (by rw [notN_app, notN_self, List.append_nil, hf, ← O.len, List.take_length]) (Nat.le_refl _) (.inl ⟨by simp, by omega⟩)
        rcases Nat.lt_or_ge i l.length with h4 | h4
        · exact (hself (hall i h4) hir).elim
        · exact .inl (by omega)
theorem ord_later {l : List NoteD} {n : NoteD} (h0 : (ordN l).2 = 0) (h : NextN l n) (hl : l.length ≤ 9999) : (ordN (l ++ [n])).2 = 0 ∧ notN l.length (ordN (l ++ [n])).1 = (ordN l).1 ∧ (ordN (l ++ [n])).1.length = l.length + 1 := by
  have O := ord_ok h0
  have W := h.whole O.whole
  obtain ⟨q, h1, h2, h3⟩ := later_loop O h (l.length + 1) [] 0 rfl (Nat.zero_le _) (.inr ⟨by simp, by omega⟩)
  have hn := ordN_R (l ++ [n])
  rw [W.notes (by simp; omega), if_pos rfl, if_pos W.places, show (l ++ [n]).length = l.length + 1 by simp, h1] at hn
  rw [hn]
  exact ⟨rfl, h2, by simpa using h3⟩
theorem ord_last {l : List NoteD} {n : NoteD} (h0 : (ordN l).2 = 0) (h : NextN l n) (hl : l.length ≤ 9999) (hb : ∀ x, x ∈ l → beforeN x n = true) : (ordN (l ++ [n])).1 = (ordN l).1 ++ [l.length] := by
  obtain ⟨h1, h2, h3⟩ := ord_later h0 h hl
  have O := ord_ok h1
  generalize (ordN (l ++ [n])).1 = q at *
  obtain ⟨t, ht, he⟩ := O.surj (show l.length < (l ++ [n]).length by simp)
  have htl : t = l.length := by
    rcases Nat.lt_or_ge t l.length with h4 | h4
    · exfalso
      have hq := (O.rdy (show l.length < q.length by omega)).1
      have hne : q[l.length] ≠ l.length := fun hc => by
        have := O.inj (show l.length < q.length by omega) ht (hc.trans he.symm)
        omega
      simp only [List.length_append, List.length_singleton] at hq
      have hj : q[l.length] < l.length := by omega
      have := O.before (show l.length < q.length by omega) ht (by
        rw [he, at!_last, at!_left hj]
        exact hb _ (at!_mem hj))
      omega
    · omega
  have hq : q = q.take l.length ++ [l.length] := by
    have h4 : q = q.take (l.length + 1) := by rw [← h3, List.take_length]
    rw [take_next (show l.length < q.length by omega)] at h4
    subst htl
    rw [he] at h4
    exact h4
  have hno : l.length ∉ q.take l.length := by
    intro hm
    obtain ⟨i, hi, hie⟩ := List.mem_take_iff_getElem.1 hm
    have := O.inj (show i < q.length by omega) ht (hie.trans he.symm)
    omega
  rw [hq, notN_app, notN_self, List.append_nil, notN_id hno] at h2
  rw [hq, ← h2]
/-- A device's notes are fewer than all. -/
theorem Whole.seq_lt {l : List NoteD} (W : Whole l) {n : NoteD} (hn : n ∈ l) : n.seq < l.length := by
  have hr := (right_rng (W.right n hn)).2.1.1
  obtain ⟨k, hk⟩ := Int.eq_ofNat_of_zero_le hr
  have hex : ∀ q : Nat, q < k + 1 → ∃ i, i < l.length ∧ (at! l i).dev = n.dev ∧ (at! l i).seq = q := by
    intro q hq
    obtain ⟨m, hm, hd, hs⟩ := W.down' hn (s := q) (by omega) (by omega)
    obtain ⟨i, hi, rfl⟩ := List.mem_iff_getElem.1 hm
    exact ⟨i, hi, by rw [at!_eq hi]; exact ⟨hd, hs⟩⟩
  let f : Nat → Nat := fun q => if h : ∃ i, i < l.length ∧ (at! l i).dev = n.dev ∧ (at! l i).seq = q then Classical.choose h else 0
  have hf : ∀ q, q < k + 1 → f q < l.length ∧ (at! l (f q)).seq = q := by
    intro q hq
    have h := hex q hq
    have : f q = Classical.choose h := by simp only [f]; rw [dif_pos h]
    rw [this]
    exact ⟨(Classical.choose_spec h).1, (Classical.choose_spec h).2.2⟩
  have := nodup_len l.length ((List.range (k + 1)).map f) (by
    rw [List.Nodup, List.pairwise_map]
    refine List.Pairwise.imp_of_mem ?_ (List.pairwise_lt_range (n := k + 1))
    intro a b ha hb hab hc
    have h1 := (hf a (List.mem_range.1 ha)).2
    have h2 := (hf b (List.mem_range.1 hb)).2
    rw [hc, h2] at h1
    omega) (by
    intro x hx
    obtain ⟨q, hq, rfl⟩ := List.mem_map.1 hx
    exact (hf q (List.mem_range.1 hq)).1)
  simp only [List.length_map, List.length_range] at this
  omega
theorem afOk_of : ∀ {l : List Int} {d k : Int}, (∀ i, (hi : i < l.length) → 0 ≤ l[i] ∧ l[i] ≤ 10000) → (∀ i, (hi : i < l.length) → k + i = d → l[i] = 0) → afOk d k l = true
  | [], _, _, _, _ => rfl
  | x :: l, d, k, h1, h2 => by
    have hx := h1 0 (by simp)
    simp only [List.getElem_cons_zero] at hx
    have hx2 := h2 0 (by simp)
    simp only [List.getElem_cons_zero, Int.natCast_zero, Int.add_zero] at hx2
    rw [afOk_go2 (rngB_iff.2 hx) (fun hc => hc.2 (hx2 hc.1))]
    refine afOk_of (fun i hi => ?_) (fun i hi hk => ?_)
    · have := h1 (i + 1) (by simpa using hi)
      simpa using this
    · have := h2 (i + 1) (by simpa using hi) (by rw [← hk]; simp; omega)
      simpa using this
/-- What has been seen of notes: how many of each device. -/
structure SnOK (l : List NoteD) (sn : List Int) : Prop where
  len : sn.length = 12
  pos : ∀ k, 0 ≤ sn.getD k 0
  up : ∀ x, x ∈ l → x.seq < sn.getD x.dev.toNat 0
  ex : ∀ k : Nat, 0 < sn.getD k 0 → ∃ x, x ∈ l ∧ x.dev = k ∧ x.seq = sn.getD k 0 - 1
theorem SnOK.start : SnOK [] (List.replicate 12 0) where
  len := by simp
  pos k := by simp only [List.getD_eq_getElem?_getD, List.getElem?_replicate]; split <;> simp
  up x hx := by cases hx
  ex k h := by
    have : (List.replicate 12 (0 : Int)).getD k 0 = 0 := by simp only [List.getD_eq_getElem?_getD, List.getElem?_replicate]; split <;> rfl
    rw [this] at h; omega
theorem SnOK.step {l : List NoteD} {sn : List Int} (h : SnOK l sn) {n : NoteD} (hr : n.right = true) : SnOK (l ++ [n]) (sn.set n.dev.toNat (max (sn.getD n.dev.toNat 0) (n.seq + 1))) := by
  have hd := right_rng hr
  have hlt : n.dev.toNat < sn.length := by rw [h.len]; omega
  have hg : ∀ k : Nat, (sn.set n.dev.toNat (max (sn.getD n.dev.toNat 0) (n.seq + 1))).getD k 0 = if k = n.dev.toNat then max (sn.getD n.dev.toNat 0) (n.seq + 1) else sn.getD k 0 := by
    intro k
    simp only [List.getD_eq_getElem?_getD, List.getElem?_set]
    split
    · rename_i hk; subst hk; simp [hlt]
    · rename_i hk; rw [if_neg (fun g => hk g.symm)]
  refine ⟨by rw [List.length_set]; exact h.len, fun k => ?_, fun x hx => ?_, fun k hk => ?_⟩
  · rw [hg]
    have := h.pos k
    split <;> omega
  · rw [hg]
    rcases List.mem_append.1 hx with hx | hx
    · have := h.up x hx
      split
      · rename_i hk; rw [hk] at this; omega
      · exact this
    · obtain rfl := List.mem_singleton.1 hx
      rw [if_pos rfl]; omega
  · rw [hg] at hk ⊢
    split
    · rename_i hkd
      rw [if_pos hkd] at hk
      rcases Int.lt_or_le (n.seq + 1) (sn.getD n.dev.toNat 0) with h1 | h1
      · obtain ⟨x, hx, hxd, hxq⟩ := h.ex k (by rw [hkd]; omega)
        exact ⟨x, List.mem_append.2 (.inl hx), hxd, by rw [hxq, hkd]; omega⟩
      · exact ⟨n, by simp, by omega, by omega⟩
    · rename_i hkd
      rw [if_neg hkd] at hk
      obtain ⟨x, hx, h1⟩ := h.ex k hk
      exact ⟨x, List.mem_append.2 (.inl hx), h1⟩
theorem SnOK.le {l : List NoteD} {sn : List Int} (h : SnOK l sn) (W : Whole l) (k : Nat) : sn.getD k 0 ≤ l.length := by
  rcases Int.lt_or_le 0 (sn.getD k 0) with h0 | h0
  · obtain ⟨x, hx, _, hq⟩ := h.ex k h0
    have := W.seq_lt hx
    omega
  · omega
theorem SnOK.next {l : List NoteD} {sn af : List Int} (h : SnOK l sn) (W : Whole l) (hl : l.length ≤ 19) {d : Nat} (hd : d < 12) {tm : Int} (ht : 0 ≤ tm ∧ tm ≤ 65535) {tx : ByteArray} (hx : tx.size ≤ 200) (haf : af = [] ∨ af = sn.set d 0) :
    NextN l ⟨d, sn.getD d 0, af, tm, tx⟩ := by
  have hle := h.le W d
  have hp := h.pos d
  have hga : ∀ i, (hi : i < af.length) → 0 ≤ af[i] ∧ af[i] ≤ 10000 ∧ (i = d → af[i] = 0) ∧ (0 < af[i] → af[i] = sn.getD i 0) := by
    intro i hi
    rcases haf with rfl | rfl
    · simp at hi
    · rw [List.getElem_set]
      split
      · exact ⟨by omega, by omega, fun _ => rfl, fun h => absurd h (by omega)⟩
      · rename_i hne
        have hi' : i < sn.length := by simpa using hi
        have hgi : sn[i] = sn.getD i 0 := by simp [List.getD, hi']
        have := h.pos i
        have := h.le W i
        exact ⟨by omega, by omega, fun hc => absurd hc.symm hne, fun _ => hgi⟩
  have hal : af.length ≤ 12 := by
    rcases haf with rfl | rfl
    · simp
    · rw [List.length_set, h.len]; omega
  refine ⟨?_, fun x hx hxd => ?_, fun h0 => ?_, fun k hk => ?_⟩
  · unfold NoteD.right
    rw [if_pos]
    · exact afOk_of (fun i hi => ⟨(hga i hi).1, (hga i hi).2.1⟩) (fun i hi hk => (hga i hi).2.2.1 (by simp only at hk; omega))
    · simp only [NoteD.ok0, Bool.and_eq_true, rngB_iff, decide_eq_true_eq]
      exact ⟨by omega, by omega, by omega, hal, by omega⟩
  · have := h.up x hx
    simp only at hxd
    rw [hxd] at this
    simpa using this
  · exact h.ex d h0
  · obtain ⟨h1, h2⟩ := seenN_pos hk
    obtain ⟨j, rfl⟩ := Int.eq_ofNat_of_zero_le h1
    have hj : j < af.length := by simp only at h2; omega
    simp only at hk ⊢
    rw [seenN_at hj] at hk ⊢
    have h3 := (hga j hj).2.2.2 hk
    rw [h3] at hk ⊢
    exact h.ex j hk
theorem SnOK.all {l : List NoteD} {sn : List Int} (h : SnOK l sn) (W : Whole l) {d : Nat} {tm : Int} {tx : ByteArray} (hn : NextN l ⟨d, sn.getD d 0, sn.set d 0, tm, tx⟩) : ∀ x, x ∈ l → beforeN x ⟨d, sn.getD d 0, sn.set d 0, tm, tx⟩ = true := by
  intro x hx
  unfold beforeN
  rw [W.right x hx, hn.right, Bool.true_and, Bool.true_and]
  have hr := right_rng (W.right x hx)
  have hu := h.up x hx
  unfold befN
  simp only
  split
  · rename_i hd
    rw [hd] at hu
    exact decide_eq_true (by simpa using hu)
  · rename_i hd
    refine decide_eq_true ?_
    obtain ⟨k, hk⟩ := Int.eq_ofNat_of_zero_le hr.1.1
    rw [hk]
    rw [hk] at hu
    have hkl : k < (sn.set d 0).length := by rw [List.length_set, h.len]; omega
    rw [seenN_at hkl, List.getElem_set, if_neg (by omega)]
    have hk' : k < sn.length := by simpa using hkl
    simpa [List.getD, hk'] using hu
end Go.Proofs.Ythnblhbdfpmolaa
