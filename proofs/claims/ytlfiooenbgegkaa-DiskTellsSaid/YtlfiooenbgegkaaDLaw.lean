/- Layer 7, plain: what the laws ask of the calls' results. -/
import Derived.Test.YtlfiooenbgegkaaDDef
namespace Go.Proofs.Ytlfiooenbgegkaa
namespace Ds

def readsL (d : Dk) : List ByteArray := (List.range d.secs.length).map fun i => readV d (i : Nat)
theorem readsL_len (d : Dk) : (readsL d).length = d.secs.length := by simp [readsL]
theorem readsL_at (d : Dk) {i : Nat} (hi : i < d.secs.length) : (readsL d)[i]? = some (readV d (i : Nat)) := by simp [readsL, hi]
theorem getD_of {l : List ByteArray} {i : Nat} {s : ByteArray} (h : l[i]? = some s) : l.getD i ByteArray.empty = s := by simp [List.getD, h]

theorem puts_get (ps : List Wr) : ∀ (l : List ByteArray) (i : Nat), i < l.length → (∀ w ∈ ps, 0 ≤ w.at_) → (puts l ps).getD i ByteArray.empty = lastAt (i : Int) (l.getD i ByteArray.empty) ps := by
  induction ps with
  | nil => intros; rfl
  | cons w ps ih =>
    intro l i hi hw
    have h0 := hw w (by simp)
    show (puts (put l w) ps).getD i _ = lastAt i (if w.at_ = i then w.text else l.getD i _) ps
    rw [ih (put l w) i (by simpa [put] using hi) (fun x hx => hw x (by simp [hx]))]
    congr 1
    by_cases hk : w.at_ = (i : Int)
    · rw [if_pos hk]; simp [put, List.getD, hk, hi]
    · rw [if_neg hk]
      have : w.at_.toNat ≠ i := by omega
      simp [put, List.getD, this]

theorem read_ok {d : Dk} (h : upE d = 0) {k : Int} (h0 : 0 ≤ k) (h1 : k < d.secs.length) : readE d k = 0 := by
  unfold readE inB
  rw [if_pos h, if_pos (by simp [h0, h1])]
theorem readV_in {d : Dk} (h : upE d = 0) {i : Nat} (hi : i < d.secs.length) : readV d (i : Nat) = lastAt (i : Nat) (d.secs.getD i ByteArray.empty) d.pend := by
  unfold readV
  rw [if_pos (read_ok h (by omega) (by omega))]
  rfl
theorem lastAt_size {k : Int} {s : ByteArray} (hs : s.size = 16) (ps : List Wr) (h : ∀ w ∈ ps, w.text.size = 16) : (lastAt k s ps).size = 16 := by
  induction ps generalizing s with
  | nil => exact hs
  | cons w ps ih =>
    show (lastAt k (if w.at_ = k then w.text else s) ps).size = 16
    apply ih
    · split
      · exact h w (by simp)
      · exact hs
    · exact fun x hx => h x (by simp [hx])
theorem readV_size {d : Dk} (h : upE d = 0) {i : Nat} (hi : i < d.secs.length) : (readV d (i : Nat)).size = 16 := by
  have hr := (upE_zero.1 h).1
  rw [readV_in h hi]
  refine lastAt_size ?_ _ (fun w hw => (right_wr hr hw).2.2)
  have : d.secs[i]? = some (d.secs[i]) := List.getElem?_eq_getElem hi
  rw [getD_of this]
  exact right_sec hr this
theorem right_of {d : Dk} (h1 : 1 ≤ d.secs.length) (h2 : d.secs.length ≤ 512) (h3 : d.pend.length ≤ 512) (h4 : -1 ≤ d.left) (h5 : d.left ≤ 512) (h6 : d.down = true → d.pend.length = 0 ∧ d.left = -1)
    (h7 : ∀ s ∈ d.secs, s.size = 16) (h8 : ∀ w ∈ d.pend, 0 ≤ w.at_ ∧ w.at_ < d.secs.length ∧ w.text.size = 16) : rightB d = true := by
  simp only [rightB, headB, downB, Bool.and_eq_true, decide_eq_true_eq, List.all_eq_true]
  refine ⟨⟨⟨⟨⟨⟨⟨h1, h2⟩, h3⟩, h4⟩, h5⟩, ?_⟩, fun s hs => by simpa [okS] using h7 s hs⟩, fun w hw => ?_⟩
  · cases hd : d.down with
    | false => rfl
    | true => have := h6 hd; simp [this]
  · have := h8 w hw
    simp [okW, this]
theorem secs16 {d : Dk} (h : rightB d = true) : ∀ s ∈ d.secs, s.size = 16 := fun s hs => by
  obtain ⟨i, hi⟩ := List.getElem?_of_mem hs
  exact right_sec h hi
theorem put_mem {l : List ByteArray} {w : Wr} {s : ByteArray} (h : s ∈ put l w) : s ∈ l ∨ s = w.text := by
  unfold put at h
  rcases List.mem_or_eq_of_mem_set h with h | h
  · exact .inl h
  · exact .inr h
theorem puts16 (ps : List Wr) : ∀ l : List ByteArray, (∀ s ∈ l, s.size = 16) → (∀ w ∈ ps, w.text.size = 16) → ∀ s ∈ puts l ps, s.size = 16 := by
  induction ps with
  | nil => intro l h _; exact h
  | cons w ps ih =>
    intro l h hw
    refine ih (put l w) (fun s hs => ?_) (fun x hx => hw x (by simp [hx]))
    rcases put_mem hs with hs | rfl
    · exact h s hs
    · exact hw w (by simp)
theorem zeros_size (n : Nat) : (zeros n).size = n := by simp [zeros, ByteArray.size]
theorem pad_size {s : ByteArray} (h : s.size ≤ 16) : (pad s).size = 16 := by
  unfold pad
  rw [ByteArray.size_append, zeros_size]; omega
theorem half_size {s t : ByteArray} (hs : s.size = 16) (ht : t.size = 16) : (half s t).size = 16 := by
  unfold half
  rw [ByteArray.size_append, ByteArray.size_extract, ByteArray.size_extract]; omega

/-! ### right results -/
theorem write_ok {d : Dk} (h : upE d = 0) {k : Int} {s : ByteArray} (h0 : 0 ≤ k) (h1 : k < d.secs.length) (hs : s.size ≤ 16) (hp : d.pend.length ≠ 512) : writeE d k s = 0 := by
  unfold writeE inB
  rw [if_pos h, if_pos ⟨by simp [h0, h1], hs⟩, if_neg hp]
theorem writeD_ok {d : Dk} {k : Int} {s : ByteArray} (h : writeE d k s = 0) : writeD d k s = { d with pend := d.pend ++ [⟨k, pad s⟩] } := by
  unfold writeD; rw [if_pos h]
theorem write_up {d : Dk} (h : upE d = 0) {k : Int} {s : ByteArray} (h0 : 0 ≤ k) (h1 : k < d.secs.length) (hs : s.size ≤ 16) (hp : d.pend.length ≠ 512) : upE (writeD d k s) = 0 := by
  rw [writeD_ok (write_ok h h0 h1 hs hp)]
  obtain ⟨hr, hd⟩ := upE_zero.1 h
  obtain ⟨a1, a2, a3, a4, a5⟩ := right_head hr
  refine upE_zero.2 ⟨right_of a1 a2 (by simp; omega) a4 a5 (fun e => by simp only at e; rw [hd] at e; cases e) (secs16 (d := d) hr) (fun w hw => ?_), hd⟩
  rcases List.mem_append.1 hw with hw | hw
  · exact right_wr hr hw
  · simp only [List.mem_singleton] at hw
    subst hw
    exact ⟨h0, h1, pad_size hs⟩
theorem flush_ok {d : Dk} (h : upE d = 0) (ha : allB d = true) : flushE d = 0 ∧ flushD d = flushed d := by
  unfold flushE flushD
  rw [if_pos h, if_pos ha, if_pos h, if_pos ha]
  exact ⟨rfl, rfl⟩
theorem flushed_up {d : Dk} (h : upE d = 0) (ha : allB d = true) : upE (flushed d) = 0 := by
  obtain ⟨hr, hd⟩ := upE_zero.1 h
  obtain ⟨a1, a2, a3, a4, a5⟩ := right_head hr
  simp only [allB, Bool.or_eq_true, decide_eq_true_eq] at ha
  refine upE_zero.2 ⟨right_of (by simpa [flushed, puts_len] using a1) (by simpa [flushed, puts_len] using a2) (by simp [flushed]) ?_ ?_ (fun e => by simp [flushed] at e) (puts16 _ _ (secs16 (d := d) hr) (fun w hw => (right_wr hr hw).2.2)) (fun w hw => by simp [flushed] at hw), rfl⟩
  · simp only [flushed]; split <;> omega
  · simp only [flushed]; split <;> omega
theorem flush_tears {d : Dk} (h : upE d = 0) (ha : allB d = false) : flushE d = 8 ∧ flushD d = torn d := by
  unfold flushE flushD
  rw [if_pos h, if_neg (by simp [ha]), if_pos h, if_neg (by simp [ha])]
  exact ⟨rfl, rfl⟩
theorem torn_right {d : Dk} (h : upE d = 0) (ha : allB d = false) : rightB (torn d) = true := by
  obtain ⟨hr, hd⟩ := upE_zero.1 h
  obtain ⟨a1, a2, a3, a4, a5⟩ := right_head hr
  simp only [allB, Bool.or_eq_false_iff, decide_eq_false_iff_not] at ha
  have hl : d.left.toNat < d.pend.length := by omega
  have hp16 := puts16 (d.pend.take d.left.toNat) d.secs (secs16 (d := d) hr) (fun w hw => (right_wr hr (List.mem_of_mem_take hw)).2.2)
  have hw : d.pend[d.left.toNat]? = some d.pend[d.left.toNat] := List.getElem?_eq_getElem hl
  obtain ⟨w0, w1, w2⟩ := right_wr hr (List.mem_of_getElem? hw)
  have hlen := puts_len (d.pend.take d.left.toNat) d.secs
  refine right_of (by simp [torn, tear_len, hlen]; omega) (by simp [torn, tear_len, hlen]; omega) (by simp [torn]) (by simp [torn]) (by simp [torn]) (fun _ => ⟨rfl, rfl⟩) (fun s hs => ?_) (fun w hw => by simp [torn] at hw)
  simp only [torn] at hs
  have e : d.pend.getD d.left.toNat ⟨0, ByteArray.empty⟩ = d.pend[d.left.toNat] := by simp [List.getD, hw]
  rw [e] at hs
  unfold tear at hs
  rcases List.mem_or_eq_of_mem_set hs with hs | rfl
  · exact hp16 s hs
  · refine half_size w2 ?_
    have hi : (d.pend[d.left.toNat].at_).toNat < (puts d.secs (d.pend.take d.left.toNat)).length := by rw [hlen]; omega
    rw [getD_of (List.getElem?_eq_getElem hi)]
    exact hp16 _ (List.getElem_mem hi)
theorem cut_ok {d : Dk} (h : upE d = 0) : cutD d = ⟨d.secs, [], -1, true⟩ := by unfold cutD; rw [if_pos h]
theorem cut_right {d : Dk} (h : upE d = 0) : rightB (cutD d) = true := by
  obtain ⟨hr, hd⟩ := upE_zero.1 h
  obtain ⟨a1, a2, a3, a4, a5⟩ := right_head hr
  rw [cut_ok h]
  exact right_of a1 a2 (by simp) (by simp) (by simp) (fun _ => ⟨rfl, rfl⟩) (secs16 (d := d) hr) (fun w hw => by simp at hw)
theorem start_ok {d : Dk} (h : rightB d = true) (hd : d.down = true) : startE d = 0 ∧ startD d = { d with down := false } := by
  have e : startE d = 0 := by unfold startE; rw [if_pos h, if_pos hd]
  refine ⟨e, ?_⟩
  unfold startD
  rw [if_pos e]
theorem start_up {d : Dk} (h : rightB d = true) (hd : d.down = true) : upE (startD d) = 0 := by
  rw [(start_ok h hd).2]
  obtain ⟨a1, a2, a3, a4, a5⟩ := right_head h
  refine upE_zero.2 ⟨right_of a1 a2 a3 a4 a5 (fun e => by cases e) (secs16 (d := d) h) (fun w hw => right_wr (d := d) h hw), rfl⟩
theorem arm_ok {d : Dk} (h : upE d = 0) {n : Int} (h0 : 0 ≤ n) (h1 : n ≤ 512) : armE d n = 0 ∧ armD d n = { d with left := n } := by
  have e : armE d n = 0 := by unfold armE; rw [if_pos h, if_pos ⟨h0, h1⟩]
  refine ⟨e, ?_⟩
  unfold armD
  rw [if_pos e]
theorem left_up {d : Dk} (h : upE d = 0) {n : Int} (h0 : -1 ≤ n) (h1 : n ≤ 512) : upE { d with left := n } = 0 := by
  obtain ⟨hr, hd⟩ := upE_zero.1 h
  obtain ⟨a1, a2, a3, a4, a5⟩ := right_head hr
  exact upE_zero.2 ⟨right_of a1 a2 a3 h0 h1 (fun e => by simp only at e; rw [hd] at e; cases e) (secs16 (d := d) hr) (fun w hw => right_wr hr hw), hd⟩

/-! ### what is read -/
theorem reads_nil {d : Dk} (h : upE d = 0) (hp : d.pend = []) : readsL d = d.secs := by
  apply List.ext_getElem
  · simp [readsL]
  · intro i h1 h2
    have := readV_in h (i := i) h2
    rw [hp] at this
    simp only [readsL, List.getElem_map, List.getElem_range]
    rw [this]
    show d.secs.getD i _ = _
    exact getD_of (List.getElem?_eq_getElem h2)
theorem reads_flushed {d : Dk} (h : upE d = 0) (ha : allB d = true) : readsL (flushed d) = readsL d := by
  have hu := flushed_up h ha
  rw [reads_nil hu rfl]
  apply List.ext_getElem
  · simp [flushed, puts_len, readsL]
  · intro i h1 h2
    have hi : i < d.secs.length := by simpa [readsL] using h2
    simp only [readsL, List.getElem_map, List.getElem_range]
    rw [readV_in h hi, ← puts_get d.pend d.secs i hi (fun w hw => (right_wr (upE_zero.1 h).1 hw).1)]
    exact (getD_of (List.getElem?_eq_getElem h1)).symm
/-- what is written is read at its sector, and nothing else has turned -/
theorem reads_write {d : Dk} (h : upE d = 0) {k : Nat} {s : ByteArray} (h1 : k < d.secs.length) (hs : s.size ≤ 16) (hp : d.pend.length ≠ 512) {i : Nat} (hi : i < d.secs.length) :
    readV (writeD d k s) (i : Nat) = if i = k then pad s else readV d (i : Nat) := by
  have hu := write_up h (k := (k : Nat)) (by omega) (by omega) hs hp
  have hw := writeD_ok (write_ok h (k := (k : Nat)) (by omega) (by omega) hs hp)
  rw [readV_in hu (by rw [hw]; exact hi), readV_in h hi, hw]
  simp only
  rw [lastAt_snoc]
  by_cases he : i = k
  · subst he; simp
  · rw [if_neg he, if_neg (by simp only; omega)]

/-- a flush that is cut after n writes -/
theorem few_up {d : Dk} (h : upE d = 0) (n : Nat) : upE { d with left := -1, pend := d.pend.take n } = 0 := by
  obtain ⟨hr, hd⟩ := upE_zero.1 h
  obtain ⟨a1, a2, a3, a4, a5⟩ := right_head hr
  refine upE_zero.2 ⟨right_of a1 a2 (by simp; omega) (by simp) (by simp) (fun e => by simp only at e; rw [hd] at e; cases e) (secs16 (d := d) hr) (fun w hw => ?_), hd⟩
  exact right_wr hr (List.mem_of_mem_take hw)
theorem parts_eq (d : Dk) (k : Int) (s : ByteArray) (hl : d.left = -1) :
    flushed { d with pend := d.pend ++ [⟨k, pad s⟩] } = flushed { flushed d with pend := (flushed d).pend ++ [⟨k, pad s⟩] } := by
  simp [flushed, hl, puts]
end Ds
end Go.Proofs.Ytlfiooenbgegkaa
