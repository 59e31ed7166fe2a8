import Derived.Test.YthkhemcbkcoliaaDoorNum
import Derived.Test.YthkhemcbkcoliaaDoorWri
import Derived.Lib.Zigzag
import Derived.WalkSmall
namespace Go.Proofs.YthkhemcbkcoliaaDoor
set_option linter.unusedVariables false
namespace Wire
open Go.RowKit Mem

/-- A reader at block B, its bytes in blocks of ok. -/
structure Rdr (w : World) (ok : Nat → Prop) (B : Nat) (A : Option Addr) (n c : Nat) (s : RS) : Prop where
  blk : Blk w B 54 #[.slice A n c, s.er.enc]
  rd : RdN w ok .u8 A n s.xs
  cap : n ≤ c
  len : n ≤ 140737488355328
  byt : Byt s.xs
  ne : ¬ ok B
theorem Rdr.keep {w w' : World} {ok S : Nat → Prop} {B : Nat} {A : Option Addr} {n c : Nat} {s : RS} (h : Rdr w ok B A n c s) (hk : Keep S w w') (hB : ¬ S B) (hs : ∀ k, ok k → ¬ S k) : Rdr w' ok B A n c s :=
  ⟨h.blk.keep hk hB, h.rd.keep hk hs, h.cap, h.len, h.byt, h.ne⟩
theorem info_size : (Tryd.prog.info? 5).map (fun i => i.size) = some 1 := by kernel_rfl
theorem Er.enc_cases (e : Er) : e.enc = .nilIface ∨ (∃ t n, e.enc = .iface t (.int .i64 n)) ∨ ∃ t s n, e.enc = .iface t (.agg #[.string s, .int .i64 n]) := by
  cases e with
  | ok => exact .inl rfl
  | no n => exact .inr (.inl ⟨_, _, rfl⟩)
  | ref s n => exact .inr (.inr ⟨_, _, _, rfl⟩)

/-- Behind a store of an error. -/
theorem Rdr.setErr {w : World} {ok : Nat → Prop} {B : Nat} {A : Option Addr} {n c : Nat} {s : RS} (h : Rdr w ok B A n c s) (e : Er) : Rdr (w.setCell ⟨B, 1, none⟩ e.enc) ok B A n c ⟨s.xs, e⟩ :=
  ⟨h.blk.set_ 1 _, h.rd.keep ((Keep.refl (fun k => k = B) w).setCell (fun _ => rfl) _) (fun k hk e => h.ne (e ▸ hk)), h.cap, h.len, h.byt, h.ne⟩
/-- Behind a store of what is left. -/
theorem Rdr.setB {w : World} {ok : Nat → Prop} {B : Nat} {A A' : Option Addr} {n c n' c' : Nat} {s : RS} {xs : List Int} (h : Rdr w ok B A n c s) (hr : RdN w ok .u8 A' n' xs) (hc : n' ≤ c') (hl : n' ≤ 140737488355328) (hb : Byt xs) : Rdr (w.setCell ⟨B, 0, none⟩ (.slice A' n' c')) ok B A' n' c' ⟨xs, s.er⟩ :=
  ⟨h.blk.set_ 0 _, hr.keep ((Keep.refl (fun k => k = B) w).setCell (fun _ => rfl) _) (fun k hk e => h.ne (e ▸ hk)), hc, hl, hb, h.ne⟩

set_option maxHeartbeats 1000000 in
set_option maxRecDepth 100000 in
theorem peek_any (ok : Nat → Prop) (B : Nat) (A : Option Addr) (n c : Nat) (s : RS) (w : World) (h : Rdr w ok B A n c s) :
    Calls Tryd.prog 67 #[.pointer (some ⟨B, 0, none⟩)] w fun e w' => e = .returned (.tuple #[.int .u64 (peekM s).1, .int .i64 (peekM s).2.1]) ∧ Rdr w' ok B A n c ⟨s.xs, (peekM s).2.2⟩ ∧ Keep (fun k => k = B) w w' := by
  have H := Held.mk h
  obtain ⟨xs, er⟩ := s
  have hc0 := h.blk.cell 0
  have hc1 := h.blk.cell 1
  have hf1 := h.blk.frozen 1
  clear h
  simp at hc0 hc1
  cases er with
  | ok =>
    simp only [Er.enc] at hc1
    rw [show peekM ⟨xs, .ok⟩ = num xs from rfl]
    generalize hr : num xs = r
    obtain ⟨x, k, er⟩ := r
    have Hr := Held.mk hr
    clear hr
    go_enter Tryd.func67, Tryd.ntmps67
    go_wp2_with fail
    refine (number_any ok A n c xs w H.out.rd H.out.cap H.out.len H.out.byt).mono ?_
    rintro e w' ⟨rfl, rfl⟩
    rw [Hr.out]
    simp only [numV]
    have hset := Held.mk (H.out.setErr er)
    rcases er.enc_cases with he | ⟨t, m, he⟩ | ⟨t, m, m', he⟩
    all_goals
      rw [he] at hset ⊢
      go_wp2
      go_ret2
      exact ⟨rfl, hset.out, (Keep.refl (fun k => k = B) w).setCell (fun _ => rfl) _⟩
  | no k =>
    simp only [Er.enc] at hc1
    go_enter Tryd.func67, Tryd.ntmps67
    go_wp2
    go_ret2
    exact ⟨rfl, H.out, Keep.refl _ _⟩
  | ref m k =>
    simp only [Er.enc] at hc1
    go_enter Tryd.func67, Tryd.ntmps67
    go_wp2
    go_ret2
    exact ⟨rfl, H.out, Keep.refl _ _⟩

set_option maxHeartbeats 1000000 in
set_option maxRecDepth 100000 in
theorem fail_any (ok : Nat → Prop) (B : Nat) (A : Option Addr) (n c : Nat) (s : RS) (k : Int) (w : World) (h : Rdr w ok B A n c s) :
    Calls Tryd.prog 68 #[.pointer (some ⟨B, 0, none⟩), .int .i64 k] w fun e w' => e = .returned (.tuple #[]) ∧ Rdr w' ok B A n c ⟨s.xs, failM s.er k⟩ ∧ Keep (fun k => k = B) w w' := by
  have H := Held.mk h
  obtain ⟨xs, er⟩ := s
  have hc1 := h.blk.cell 1
  have hf1 := h.blk.frozen 1
  clear h
  simp at hc1
  cases er with
  | ok =>
    simp only [Er.enc] at hc1
    go_enter Tryd.func68, Tryd.ntmps68
    go_wp2
    go_end0
    exact ⟨rfl, H.out.setErr (.no k), (Keep.refl (fun k => k = B) w).setCell (fun _ => rfl) _⟩
  | no m =>
    simp only [Er.enc] at hc1
    go_enter Tryd.func68, Tryd.ntmps68
    go_wp2
    go_end0
    exact ⟨rfl, H.out, Keep.refl _ _⟩
  | ref m m' =>
    simp only [Er.enc] at hc1
    go_enter Tryd.func68, Tryd.ntmps68
    go_wp2
    go_end0
    exact ⟨rfl, H.out, Keep.refl _ _⟩

set_option maxHeartbeats 1000000 in
set_option maxRecDepth 100000 in
theorem ruint_any (ok : Nat → Prop) (B : Nat) (A : Option Addr) (n c : Nat) (s : RS) (most : Nat) (w : World) (h : Rdr w ok B A n c s) :
    Calls Tryd.prog 43 #[.pointer (some ⟨B, 0, none⟩), .int .u64 most] w fun e w' => e = .returned (.int .u64 (uintM s most).1) ∧ (∃ A' n' c', Rdr w' ok B A' n' c' (uintM s most).2) ∧ Keep (fun k => k = B) w w' := by
  have hple := peekM_le s
  unfold uintM
  generalize hp : peekM s = p at *
  obtain ⟨x, k, er⟩ := p
  have Hp := Held.mk hp
  have H := Held.mk h
  clear hp h
  simp only at hple
  by_cases hlt : most < x
  · rw [if_pos hlt]
    go_enter Tryd.func43, Tryd.ntmps43
    go_wp2_with fail
    refine (peek_any ok B A n c s w H.out).mono ?_
    rw [Hp.out]
    rintro e w1 ⟨rfl, h1, hk1⟩
    have H1 := Held.mk h1
    have K1 := Held.mk hk1
    clear h1 hk1
    go_wp2_with fail
    refine (fail_any ok B A n c _ 5 w1 H1.out).mono ?_
    rintro e w2 ⟨rfl, h2, hk2⟩
    have H2 := Held.mk h2
    have K2 := Held.mk hk2
    clear h2 hk2
    go_wp2
    go_ret
    exact ⟨rfl, ⟨A, n, c, H2.out⟩, K1.out.trans K2.out⟩
  · rw [if_neg hlt]
    have hkn : k ≤ n := by have := H.out.rd.len; omega
    obtain ⟨A', n', c', hn', hle, hrun, hrd⟩ := cutF (P := Tryd.prog) 23 5 .i64 Tryd.underlying23 info_size A n c k hkn H.out.cap
    have Hrd := Held.mk hrd
    clear hrd
    go_enter Tryd.func43, Tryd.ntmps43
    go_wp2_with fail
    refine (peek_any ok B A n c s w H.out).mono ?_
    rw [Hp.out]
    rintro e w1 ⟨rfl, h1, hk1⟩
    have hc0 := h1.blk.cell 0
    have hf0 := h1.blk.frozen 0
    simp at hc0
    have H1 := Held.mk h1
    have K1 := Held.mk hk1
    clear h1 hk1
    go_wp2
    go_ret
    refine ⟨rfl, ⟨A', n', c', H1.out.setB (RdV.nums_drop (Hrd.out _ _ _ H1.out.rd)) hle (by have := hn'.out; have := H1.out.len; omega) (H1.out.byt.drop k)⟩, K1.out.setCell (fun _ => rfl) _⟩

theorem unzig_bits (x : Nat) (hx : U64 x) : bits .xor .i64 (wrap64 ((x : Int) / 2)) (wrap64 (-(wrap64 (bits .and .u64 (x : Int) 1)))) = unzig x := by
  unfold U64 at hx
  rw [and_one_u64 _ (by omega) (by omega)]
  have e1 : wrap64 ((x : Int) / 2) = ((x / 2 : Nat) : Int) := by unfold wrap64; omega
  have e2 : wrap64 ((x : Int) % 2) = (x : Int) % 2 := by unfold wrap64; omega
  have e3 : wrap64 (-((x : Int) % 2)) = -((x : Int) % 2) := by unfold wrap64; omega
  rw [e1, e2, e3]
  unfold unzig
  split
  · rename_i h
    rw [show -((x : Int) % 2) = 0 from by omega]
    have e4 : (BitVec.ofInt IntKind.i64.bits 0) = 0#IntKind.i64.bits := by decide
    have e5 : (x / 2) % 2 ^ IntKind.i64.bits = x / 2 := Nat.mod_eq_of_lt (by simp only [IntKind.bits]; omega)
    simp only [bits, BitVec.ofInt_natCast]
    rw [e4, BitVec.xor_zero, BitVec.toNat_ofNat, e5, IntKind.wrap_i64]
    omega
  · rename_i h
    rw [show -((x : Int) % 2) = -1 from by omega]
    have := Lib.i64_not (x / 2) (by omega)
    rw [← this]
    simp only [bits, BitVec.xor_comm]

set_option maxHeartbeats 1000000 in
set_option maxRecDepth 100000 in
theorem rint_any (ok : Nat → Prop) (B : Nat) (A : Option Addr) (n c : Nat) (s : RS) (w : World) (h : Rdr w ok B A n c s) :
    Calls Tryd.prog 46 #[.pointer (some ⟨B, 0, none⟩)] w fun e w' => e = .returned (.int .i64 (intM s).1) ∧ (∃ A' n' c', Rdr w' ok B A' n' c' (intM s).2) ∧ Keep (fun k => k = B) w w' := by
  have hple := peekM_le s
  have hU := peekM_U64 s h.byt
  unfold intM
  generalize hp : peekM s = p at *
  obtain ⟨x, k, er⟩ := p
  have Hp := Held.mk hp
  have H := Held.mk h
  clear hp h
  simp only at hple hU ⊢
  have HZ := Held.mk (unzig_bits x hU)
  have hkn : k ≤ n := by have := H.out.rd.len; omega
  obtain ⟨A', n', c', hn', hle, hrun, hrd⟩ := cutF (P := Tryd.prog) 23 5 .i64 Tryd.underlying23 info_size A n c k hkn H.out.cap
  have Hrd := Held.mk hrd
  clear hrd
  go_enter Tryd.func46, Tryd.ntmps46
  go_wp2_with fail
  refine (peek_any ok B A n c s w H.out).mono ?_
  rw [Hp.out]
  rintro e w1 ⟨rfl, h1, hk1⟩
  have hc0 := h1.blk.cell 0
  have hf0 := h1.blk.frozen 0
  simp at hc0
  have H1 := Held.mk h1
  have K1 := Held.mk hk1
  clear h1 hk1
  go_wp2
  go_ret
  rw [← HZ.out]
  exact ⟨rfl, ⟨A', n', c', H1.out.setB (RdV.nums_drop (Hrd.out _ _ _ H1.out.rd)) hle (by have := hn'.out; have := H1.out.len; omega) (H1.out.byt.drop k)⟩, K1.out.setCell (fun _ => rfl) _⟩

/-- The bytes of a text. -/
def str (xs : List Int) : Value := .string (strOfNums xs)
set_option maxHeartbeats 2000000 in
set_option maxRecDepth 100000 in
theorem rtext_any (ok : Nat → Prop) (B : Nat) (A : Option Addr) (n c : Nat) (s : RS) (most : Int) (w : World) (hm : I64 most) (h : Rdr w ok B A n c s) :
    Calls Tryd.prog 47 #[.pointer (some ⟨B, 0, none⟩), .int .i64 most] w fun e w' => e = .returned (.string (strOfNums (textM s most).1)) ∧ (∃ A' n' c', Rdr w' ok B A' n' c' (textM s most).2) ∧ Keep (fun k => k = B) w w' := by
  have hple := peekM_le s
  have hU := peekM_U64 s h.byt
  have hlen := h.rd.len
  unfold textM
  generalize hp : peekM s = p at *
  obtain ⟨x, k, er⟩ := p
  have Hp := Held.mk hp
  have H := Held.mk h
  have hnl := h.len
  clear hp h
  simp only at hple hU ⊢
  have hmx : (IntKind.u64.wrap (max most 0)) = ((max most 0).toNat : Int) := by
    unfold I64 at hm
    rw [IntKind.wrap_u64]
    omega
  by_cases hlt : (max most 0).toNat < x
  · rw [if_pos hlt]
    have hT : IntKind.u64.wrap (max most 0) < (x : Int) := by rw [hmx]; omega
    clear hmx hlt hlen
    go_enter Tryd.func47, Tryd.ntmps47
    go_wp2_with fail
    refine (peek_any ok B A n c s w H.out).mono ?_
    rw [Hp.out]
    rintro e w1 ⟨rfl, h1, hk1⟩
    have H1 := Held.mk h1
    have K1 := Held.mk hk1
    clear h1 hk1
    go_wp2_with fail
    refine (fail_any ok B A n c _ 5 w1 H1.out).mono ?_
    rintro e w2 ⟨rfl, h2, hk2⟩
    have H2 := Held.mk h2
    have K2 := Held.mk hk2
    clear h2 hk2
    go_wp2
    go_ret
    exact ⟨rfl, ⟨A, n, c, H2.out⟩, K1.out.trans K2.out⟩
  · rw [if_neg hlt]
    have hT : (x : Int) ≤ IntKind.u64.wrap (max most 0) := by rw [hmx]; omega
    have Hlen := Held.mk hlen
    have hkn : k ≤ n := by omega
    by_cases hsh : s.xs.length - k < x
    · rw [if_pos hsh]
      have hS : (n : Int) - k < x := by omega
      clear hmx hlt hsh hlen hple
      go_enter Tryd.func47, Tryd.ntmps47
      go_wp2_with fail
      refine (peek_any ok B A n c s w H.out).mono ?_
      rw [Hp.out]
      rintro e w1 ⟨rfl, h1, hk1⟩
      have hc0 := h1.blk.cell 0
      simp at hc0
      have H1 := Held.mk h1
      have K1 := Held.mk hk1
      clear h1 hk1
      go_wp2_with fail
      refine (fail_any ok B A n c _ 2 w1 H1.out).mono ?_
      rintro e w2 ⟨rfl, h2, hk2⟩
      have H2 := Held.mk h2
      have K2 := Held.mk hk2
      clear h2 hk2
      go_wp2
      go_ret
      exact ⟨rfl, ⟨A, n, c, H2.out⟩, K1.out.trans K2.out⟩
    · rw [if_neg hsh]
      have hS : (x : Int) ≤ n - k := by omega
      obtain ⟨A1, n1, c1, hn1, hle1, hrun1, hrd1⟩ := cutM (P := Tryd.prog) 23 5 .i64 .i64 Tryd.underlying23 info_size A n c k (k + x) (by omega) (by omega) H.out.cap
      obtain ⟨A2, n2, c2, hn2, hle2, hrun2, hrd2⟩ := cutF (P := Tryd.prog) 23 5 .i64 Tryd.underlying23 info_size A n c (k + x) (by omega) H.out.cap
      simp only [Int.natCast_add] at hrun1 hrun2
      have Hrd1 := Held.mk hrd1
      have Hrd2 := Held.mk hrd2
      clear hmx hlt hsh hlen hple hrd1 hrd2
      go_enter Tryd.func47, Tryd.ntmps47
      go_wp2_with fail
      refine (peek_any ok B A n c s w H.out).mono ?_
      rw [Hp.out]
      rintro e w1 ⟨rfl, h1, hk1⟩
      have hc0 := h1.blk.cell 0
      have hf0 := h1.blk.frozen 0
      simp at hc0
      have hcv := cvtS (P := Tryd.prog) (w := w1) (c := c1) 23 9 5 Tryd.underlying23 Tryd.underlying5 Tryd.underlying9 (RdV.nums_mid (Hrd1.out _ _ _ h1.rd)) ((h1.byt.take _).drop _)
      have H1 := Held.mk h1
      have K1 := Held.mk hk1
      clear h1 hk1
      go_wp2
      go_ret
      refine ⟨?_, ⟨A2, n2, c2, H1.out.setB (RdV.nums_drop (Hrd2.out _ _ _ H1.out.rd)) hle2 (by have := hn2.out; have := H1.out.len; omega) (H1.out.byt.drop _)⟩, K1.out.setCell (fun _ => rfl) _⟩
      have e : (s.xs.take (k + x)).drop k = (s.xs.drop k).take x := by rw [List.drop_take]; congr 1; omega
      rw [← e]
      rfl

set_option maxHeartbeats 1000000 in
set_option maxRecDepth 100000 in
theorem left_any (ok : Nat → Prop) (B : Nat) (A : Option Addr) (n c : Nat) (s : RS) (w : World) (h : Rdr w ok B A n c s) :
    Calls Tryd.prog 21 #[.pointer (some ⟨B, 0, none⟩)] w fun e w' => e = .returned (.int .i64 s.xs.length) ∧ w = w' := by
  have hl := Held.mk h.rd.len
  have hc0 := h.blk.cell 0
  simp at hc0
  clear h
  go_enter Tryd.func21, Tryd.ntmps21
  go_wp2
  go_ret
  rw [hl.out]
  exact ⟨rfl, rfl⟩

def wBehind : ByteArray := ⟨#[98, 101, 104, 105, 110, 100, 32, 116, 104, 101, 32, 108, 97, 115, 116]⟩
def endM (s : RS) : Er := match s.er with
  | .ok => if s.xs.length = 0 then .ok else .ref wBehind 3
  | e => e
set_option maxHeartbeats 1000000 in
set_option maxRecDepth 100000 in
theorem end_any (ok : Nat → Prop) (B : Nat) (A : Option Addr) (n c : Nat) (s : RS) (w : World) (h : Rdr w ok B A n c s) :
    Calls Tryd.prog 25 #[.pointer (some ⟨B, 0, none⟩)] w fun e w' => e = .returned (endM s).enc ∧ w = w' := by
  obtain ⟨xs, er⟩ := s
  have hl := Held.mk h.rd.len
  have hc0 := h.blk.cell 0
  have hc1 := h.blk.cell 1
  clear h
  simp at hc0 hc1
  cases er with
  | ok =>
    simp only [Er.enc] at hc1
    unfold endM
    simp only [hl.out]
    by_cases h0 : n = 0
    · subst h0
      go_enter Tryd.func25, Tryd.ntmps25
      go_wp2
      go_ret
      exact ⟨rfl, rfl⟩
    · rw [if_neg h0]
      have hp : (0 : Int) < n := by omega
      go_enter Tryd.func25, Tryd.ntmps25
      go_wp2
      go_ret
      exact ⟨rfl, rfl⟩
  | no k =>
    simp only [Er.enc] at hc1
    go_enter Tryd.func25, Tryd.ntmps25
    go_wp2
    go_ret
    exact ⟨rfl, rfl⟩
  | ref m k =>
    simp only [Er.enc] at hc1
    go_enter Tryd.func25, Tryd.ntmps25
    go_wp2
    go_ret
    exact ⟨rfl, rfl⟩

set_option maxHeartbeats 1000000 in
set_option maxRecDepth 100000 in
theorem newReader_any (ok : Nat → Prop) (A : Option Addr) (n c : Nat) (xs : List Int) (w : World) (hr : RdN w ok .u8 A n xs) (hl : n ≤ 140737488355328) (hc : n ≤ c) (hb : Byt xs) :
    Calls Tryd.prog 16 #[.slice A n c] w fun e w' => ∃ B ok' A' n' c', e = .returned (.pointer (some ⟨B, 0, none⟩)) ∧ w.heap.size ≤ B ∧ (∀ k, ok' k → w.heap.size ≤ k) ∧ Rdr w' ok' B A' n' c' ⟨xs, .ok⟩ ∧ Below w.heap.size w w' := by
  have Hr := Held.mk hr
  have Hb := Held.mk hb
  clear hr hb
  go_enter Tryd.func16, Tryd.ntmps16
  go_wp2_with fail
  refine (clone_any ok A n c xs w Hr.out (by omega) hc).mono ?_
  rintro e w1 ⟨v1, rfl, ho1, hb1⟩
  obtain ⟨A1, c1, rfl, hc1, hr1⟩ := RdN.of_own ho1
  have Ho1 := Held.mk ho1
  have Hb1 := Held.mk hb1
  have Hr1 := Held.mk hr1
  clear ho1 hb1 hr1
  go_wp2
  go_ret
  have hs := Hb1.out.size
  have hk : Keep (fun _ => False) w1 (w1.alloc (.cells #[.slice A1 xs.length c1, .nilIface] 54)) := (Keep.refl _ _).alloc _
  refine ⟨w1.heap.size, fun k => (Value.slice A1 xs.length c1).ownBlock = some k, A1, xs.length, c1, rfl, hs, fun k hk => own_ge Ho1.out k hk, ⟨Blk.new _ _ _, Hr1.out.keep hk (fun _ _ h => h), hc1, by have := Hr.out.len; omega, Hb.out, fun hk => by have := own_lt Ho1.out _ hk; omega⟩, ?_⟩
  exact Hb1.out.alloc hs _
end Wire
end Go.Proofs.YthkhemcbkcoliaaDoor
