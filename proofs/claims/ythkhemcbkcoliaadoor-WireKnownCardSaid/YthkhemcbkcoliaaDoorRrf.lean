/- The document's reader's number: walked. -/
import Derived.Test.YthkhemcbkcoliaaDoorRun
import Derived.Test.YthkhemcbkcoliaaDoorRdr
import Derived.Test.YthkhemcbkcoliaaDoorWus
import Derived.Deep.RegionHeld3
namespace Go.Proofs.YthkhemcbkcoliaaDoor
set_option linter.unusedVariables false
set_option linter.unusedSimpArgs false
namespace Wire
open Go.RowKit Mem Apn
/-- What the document's reader reads: the bytes b from p on. -/
structure One (w : World) (ok : Nat → Prop) (A : Option Addr) (n c : Nat) (b : List Int) (p : Nat) (s : RS) : Prop where
  rd : RdN w ok .u8 A n b
  cap : n ≤ c
  len : n ≤ 140737488355328
  byt : Byt b
  pos : p ≤ n
  xs : s.xs = b.drop p
  fit : s.er.fit
theorem One.keep {w w' : World} {ok S : Nat → Prop} {A : Option Addr} {n c : Nat} {b : List Int} {p : Nat} {s : RS} (h : One w ok A n c b p s) (hk : Keep S w w') (hs : ∀ k, ok k → ¬ S k) : One w' ok A n c b p s :=
  ⟨h.rd.keep hk hs, h.cap, h.len, h.byt, h.pos, h.xs, h.fit⟩
theorem fit_code {e : Er} (h : e.fit) : (e = .ok ∧ e.code = 0) ∨ (e ≠ .ok ∧ 1 ≤ e.code ∧ e.code ≤ 24) := by
  cases e with
  | ok => exact .inl ⟨rfl, rfl⟩
  | no k => exact .inr ⟨by simp, h.1, h.2⟩
  | ref s k => exact .inr ⟨by simp, h.1, h.2⟩
theorem peekM_fit (s : RS) (h : s.er.fit) : (peekM s).2.2.fit := by
  unfold peekM
  split
  · exact num_fit _
  · exact h
theorem peekM_bad {s : RS} (h : s.er ≠ .ok) : peekM s = (0, 0, s.er) := by
  unfold peekM
  split
  · rename_i he; exact absurd he h
  · rfl
theorem peekM_ok {s : RS} (h : s.er = .ok) : peekM s = num s.xs := by
  unfold peekM
  rw [h]
set_option maxHeartbeats 1000000 in
set_option maxRecDepth 100000 in
theorem rform_0 (ok : Nat → Prop) (W : Nat) (A : Option Addr) (n c : Nat) (b : List Int) (p : Nat) (s : RS) (y0 y1 y2 : Value) (w : World) (hB : Blk w W 41 #[.slice A n c, .int .i64 p, .int .i64 s.er.code, y0, y1, y2]) (h : One w ok A n c b p s) (hW : ¬ ok W) :
    Calls Tryd.prog 69 #[.pointer (some ⟨W, 0, none⟩)] w fun e w' => e = .returned (.tuple #[.int .u64 (peekM s).1, .int .i64 (peekM s).2.1]) ∧ Blk w' W 41 #[.slice A n c, .int .i64 p, .int .i64 (peekM s).2.2.code, y0, y1, y2] ∧ Keep (fun k => k = W) w w' := by
  have k0 := hB.cell 0
  have k1 := hB.cell 1
  have k2 := hB.cell 2
  have f2 := hB.frozen 2
  simp at k0 k1 k2
  have HB := Held.mk hB
  rcases fit_code h.fit with ⟨he, hc⟩ | ⟨he, hc1, hc2⟩
  · rw [hc] at k2
    rw [peekM_ok he, h.xs]
    have hpn := h.pos
    obtain ⟨A1, n1, c1, hn1, hle1, hrun1, hrd1⟩ := cutF (P := Tryd.prog) 23 5 .i64 Tryd.underlying23 info_size A n c p h.pos h.cap
    have HN := Held.mk (fun W' (hW' : Below w.heap.size w W') => runum_any ok A1 n1 c1 (b.drop p) W' (RdN.keep (RdV.nums_drop (hrd1 w ok _ h.rd)) (Keep.of_below hW' (fun _ => False)) (fun _ _ h => h)) (by have := hn1.out; have := h.len; omega) (h.byt.drop p))
    unfold numR at HN
    have hpI : (p : Int) ≤ (n : Int) := by omega
    have hlI : (n : Int) ≤ 140737488355328 := by have := h.len; omega
    have HC := Held.mk h.cap
    generalize num (b.drop p) = r at *
    clear hrd1 h hW hB he hc
    go_enter Tryd.func69, Tryd.ntmps69
    go_wp2_with fail
    go_region_held3 (fun w' => w'.cell? ⟨W, 0, none⟩ = some (.slice A n c) ∧ w'.cell? ⟨W, 1, none⟩ = some (.int .i64 p)) (go_keep) ((go_at_call 55; refine (HN.out _ (by first | exact Below.refl _ _ | exact Aps.below_drw (Below.refl _ _))).mono ?_; rintro e w1 ⟨rfl, rfl⟩))
    go_wp2
    go_ret2
    refine ⟨rfl, ?_, ((Keep.refl (fun k => k = W) w).setCell (p := ⟨W, 2, none⟩) (fun _ => rfl) _).drew⟩
    have := HB.out.set_ 2 (.int .i64 r.2.2.code)
    exact Blk.drew (by simpa using this)
  · rw [peekM_bad he]
    have hne : ¬ s.er.code = 0 := by omega
    generalize s.er.code = z at *
    clear h hW hB he
    go_enter Tryd.func69, Tryd.ntmps69
    go_wp2
    go_ret2
    exact ⟨rfl, HB.out, Keep.refl _ _⟩
set_option maxHeartbeats 1000000 in
set_option maxRecDepth 100000 in
theorem rform_3 (ok : Nat → Prop) (W : Nat) (A : Option Addr) (n c : Nat) (b : List Int) (p : Nat) (s : RS) (y0 y1 y2 : Value) (w : World) (hB : Blk w W 41 #[y0, y1, y2, .slice A n c, .int .i64 p, .int .i64 s.er.code]) (h : One w ok A n c b p s) (hW : ¬ ok W) :
    Calls Tryd.prog 69 #[.pointer (some ⟨W, 3, none⟩)] w fun e w' => e = .returned (.tuple #[.int .u64 (peekM s).1, .int .i64 (peekM s).2.1]) ∧ Blk w' W 41 #[y0, y1, y2, .slice A n c, .int .i64 p, .int .i64 (peekM s).2.2.code] ∧ Keep (fun k => k = W) w w' := by
  have k0 := hB.cell 3
  have k1 := hB.cell 4
  have k2 := hB.cell 5
  have f2 := hB.frozen 5
  simp at k0 k1 k2
  have HB := Held.mk hB
  rcases fit_code h.fit with ⟨he, hc⟩ | ⟨he, hc1, hc2⟩
  · rw [hc] at k2
    rw [peekM_ok he, h.xs]
    have hpn := h.pos
    obtain ⟨A1, n1, c1, hn1, hle1, hrun1, hrd1⟩ := cutF (P := Tryd.prog) 23 5 .i64 Tryd.underlying23 info_size A n c p h.pos h.cap
    have HN := Held.mk (fun W' (hW' : Below w.heap.size w W') => runum_any ok A1 n1 c1 (b.drop p) W' (RdN.keep (RdV.nums_drop (hrd1 w ok _ h.rd)) (Keep.of_below hW' (fun _ => False)) (fun _ _ h => h)) (by have := hn1.out; have := h.len; omega) (h.byt.drop p))
    unfold numR at HN
    have hpI : (p : Int) ≤ (n : Int) := by omega
    have hlI : (n : Int) ≤ 140737488355328 := by have := h.len; omega
    have HC := Held.mk h.cap
    generalize num (b.drop p) = r at *
    clear hrd1 h hW hB he hc
    go_enter Tryd.func69, Tryd.ntmps69
    go_wp2_with fail
    go_region_held3 (fun w' => w'.cell? ⟨W, 3, none⟩ = some (.slice A n c) ∧ w'.cell? ⟨W, 4, none⟩ = some (.int .i64 p)) (go_keep) ((go_at_call 55; refine (HN.out _ (by first | exact Below.refl _ _ | exact Aps.below_drw (Below.refl _ _))).mono ?_; rintro e w1 ⟨rfl, rfl⟩))
    go_wp2
    go_ret2
    refine ⟨rfl, ?_, ((Keep.refl (fun k => k = W) w).setCell (p := ⟨W, 5, none⟩) (fun _ => rfl) _).drew⟩
    have := HB.out.set_ 5 (.int .i64 r.2.2.code)
    exact Blk.drew (by simpa using this)
  · rw [peekM_bad he]
    have hne : ¬ s.er.code = 0 := by omega
    generalize s.er.code = z at *
    clear h hW hB he
    go_enter Tryd.func69, Tryd.ntmps69
    go_wp2
    go_ret2
    exact ⟨rfl, HB.out, Keep.refl _ _⟩
end Wire
end Go.Proofs.YthkhemcbkcoliaaDoor
