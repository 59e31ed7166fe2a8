/- The program's Append, Sync, Last: walked. -/
import Derived.Test.YtihgmlcmdpmhhaaJop
namespace Go.Proofs.Ytihgmlcmdpmhhaa
set_option linter.unusedVariables false
set_option linter.unusedSimpArgs false
namespace Jrn
open Go.RowKit Mem Apn Wire
theorem Jk.keep {w w' : World} {F : Nat → Prop} {J P : Nat} {j : JS} (h : Jk w F J P j) {S : Nat → Prop} (hk : Keep S w w') (hS : ∀ k, S k → F k) : Jk w' F J P j := by
  obtain ⟨bd, ba, h1, h2, h3, h4, h5⟩ := h.ex
  exact ⟨⟨bd, ba, h1.keep hk (fun h' => h.jF (hS _ h')), h2.keep hk (fun h' => h4 (hS _ h')), h3.keep hk (fun h' => h5 (hS _ h')), h4, h5⟩, h.jF⟩
theorem Jk.lt {w : World} {F : Nat → Prop} {J P : Nat} {j : JS} (h : Jk w F J P j) : J < w.heap.size := by
  obtain ⟨bd, ba, h1, _⟩ := h.ex
  exact h1.lt
theorem Jk.mono {w : World} {F F' : Nat → Prop} {J P : Nat} {j : JS} (h : Jk w F J P j) (hF : ∀ k, k < w.heap.size → F' k → F k) : Jk w F' J P j := by
  obtain ⟨bd, ba, h1, h2, h3, h4, h5⟩ := h.ex
  exact ⟨⟨bd, ba, h1, h2, h3, fun h => h4 (hF _ h2.lt h), fun h => h5 (hF _ h3.lt h)⟩, fun h' => h.jF (hF _ h1.lt h')⟩
/-- The disk was written. -/
theorem Jk.next {w w' : World} {F : Nat → Prop} {J P : Nat} {j : JS} (h : Jk w F J P j) (hk : Keep F w w') : Jk w' (Nw F w w') J P j := by
  obtain ⟨bd, ba, h1, h2, h3, h4, h5⟩ := h.ex
  have k1 := h1.keep hk h.jF
  have k2 := h2.keep hk h4
  have k3 := h3.keep hk h5
  have l1 := h1.lt
  have l2 := h2.lt
  have l3 := h3.lt
  exact ⟨⟨bd, ba, k1, k2, k3, fun h => by rcases h with h | h; exact h4 h; omega, fun h => by rcases h with h | h; exact h5 h; omega⟩, fun h' => by rcases h' with h' | h'; exact h.jF h'; omega⟩
theorem Jk.below {w w' : World} {F : Nat → Prop} {J P : Nat} {j : JS} (h : Jk w F J P j) (hb : Below w.heap.size w w') : Jk w' F J P j := h.keep (Keep.of_below hb (fun _ => False)) (fun _ h => h.elim)
/-- A journal's own block is written: its two last cells. -/
theorem Jk.set_ {w : World} {F : Nat → Prop} {J P : Nat} {j : JS} (h : Jk w F J P j) : Jk (w.setCell ⟨J, 3, none⟩ (.int .i64 ((j.last : Int) + 1))) F J P ⟨j.fl, j.last + 1, j.synced⟩ ∧ Jk (w.setCell ⟨J, 4, none⟩ (.int .i64 j.last)) F J P ⟨j.fl, j.last, j.last⟩ := by
  obtain ⟨bd, ba, h1, h2, h3, h4, h5⟩ := h.ex
  have e : ((j.last + 1 : Nat) : Int) = (j.last : Int) + 1 := by omega
  refine ⟨⟨⟨bd, ba, ?_, h2.far (Blk.ne_ h2 h1 (by decide)) _, h3.far (Blk.ne_ h3 h1 (by decide)) _, h4, h5⟩, h.jF⟩, ⟨⟨bd, ba, ?_, h2.far (Blk.ne_ h2 h1 (by decide)) _, h3.far (Blk.ne_ h3 h1 (by decide)) _, h4, h5⟩, h.jF⟩⟩
  · have := h1.set_ 3 (.int .i64 ((j.last : Int) + 1))
    rw [← e] at this ⊢
    simpa using this
  · have := h1.set_ 4 (.int .i64 j.last)
    simpa using this
set_option maxHeartbeats 1000000 in
set_option maxRecDepth 100000 in
theorem jfailed_any (b : Bool) (F : Nat → Prop) (P bd ba : Nat) (s : DS) (fl : Nat) (w : World) (h : Dk w F P s) (h2 : Blk w bd 35 #[.pointer (some ⟨P, 0, none⟩)]) (h3 : Blk w ba 3 #[.int .i64 fl]) (hb : b = decide (¬ s.failed = fl)) :
    Calls Try.prog 33 #[.pointer (some ⟨bd, 0, none⟩), .pointer (some ⟨ba, 0, none⟩)] w fun e w' => e = .returned (.bool b) ∧ ∃ m, w' = w.drewN m := by
  obtain ⟨v1, v2, armed, inn, h1, _⟩ := h.ex
  have c4 := h1.cell 4
  have d0 := h2.cell 0
  have a0 := h3.cell 0
  clear h h1 h2 h3
  cases b with
  | false =>
    have he : s.failed = fl := by simpa using hb
    have e1 : ((fl : Int) != fl) = false := by simp
    rw [he] at c4
    clear hb he
    go_enter Try.func33, Try.ntmps33
    go_wp2
    go_quiet (fail)
    go_wp2
    go_ret
    exact ⟨rfl, _, rfl⟩
  | true =>
    have he : ¬ s.failed = fl := by simpa using hb
    have e1 : ((s.failed : Int) != fl) = true := by rw [bne_iff_ne]; omega
    clear hb he
    go_enter Try.func33, Try.ntmps33
    go_wp2
    go_quiet (fail)
    go_wp2
    go_ret
    exact ⟨rfl, _, rfl⟩
set_option maxHeartbeats 1000000 in
set_option maxRecDepth 100000 in
theorem last_any (F : Nat → Prop) (J P : Nat) (j : JS) (w : World) (h : Jk w F J P j) : Calls Try.prog 22 #[.pointer (some ⟨J, 0, none⟩)] w fun e w' => e = .returned (.tuple #[.int .i64 j.last, .int .i64 j.synced]) ∧ ∃ m, w' = w.drewN m := by
  obtain ⟨bd, ba, h1, _⟩ := h.ex
  have c3 := h1.cell 3
  have c4 := h1.cell 4
  clear h h1
  go_enter Try.func22, Try.ntmps22
  go_wp2
  go_quiet (fail)
  go_wp2
  go_ret2
  exact ⟨rfl, _, rfl⟩
/-- What Append leaves. -/
def AppP (F : Nat → Prop) (J P : Nat) (r : DS × JS × Int × Value) (w : World) (e : Ending) (w' : World) : Prop :=
  e = .returned (.tuple #[.int .i64 r.2.2.1, r.2.2.2]) ∧ ∃ F', Dk w' F' P r.1 ∧ Jk w' F' J P r.2.1 ∧ (∀ k, F' k → F k ∨ (w.heap.size ≤ k ∧ k < w'.heap.size)) ∧ Keep (fun k => F k ∨ k = J) w w'
set_option maxHeartbeats 4000000 in
set_option maxRecDepth 100000 in
theorem append_any (F : Nat → Prop) (J P : Nat) (s : DS) (j : JS) (ok : Nat → Prop) (A : Option Addr) (n c : Nat) (r : List Int) (w : World) (hD : Dk w F P s) (hJ : Jk w F J P j) (hs : s.Good) (hr : RdN w ok .u8 A n r) (hb : Byt r) (hF : ∀ k, F k → k < w.heap.size)
    (hn : n ≤ 140737488355328) (hl : j.last ≤ 4611686018427387904) :
    Calls Try.prog 18 #[.pointer (some ⟨J, 0, none⟩), .slice A n c] w (AppP F J P (appS s j r) w) := by
  have hlen := hr.len
  have HR := Held.mk hr
  have HBy := Held.mk hb
  have HDw := Held.mk hD
  have HJw := Held.mk hJ
  have HFF := Held.mk hF
  have HG := Held.mk hs
  obtain ⟨bd, ba, h1, h2, h3, h4, h5⟩ := hJ.ex
  have c2 := h1.cell 2
  have HJB := Held.mk h1
  have HFl := Held.mk (fun b hb => jfailed_any b F P bd ba s j.fl w hD h2 h3 hb)
  have Hlen := Held.mk hlen
  clear hD hJ hs hr hb hF h1 h2 h3 h4 h5 hlen
  by_cases hf : s.failed = j.fl
  · have HC := Held.mk (HFl.out false (by simp [hf]))
    by_cases hn6 : 65536 < n
    · have HA : Held (appS s j r = (s, j, 0, Er.enc (.ref wPayload 5))) := ⟨by unfold appS; rw [if_neg (by simpa using hf), if_pos (by rw [Hlen.out]; exact hn6)]⟩
      have HNo := Held.mk (fun W => frame_no (j.last + 1) A n c W hn6)
      have ec : ((j.last + 1 : Nat) : Int) = (j.last : Int) + 1 := by omega
      rw [ec] at HNo
      have c3 := HJB.out.cell 3
      clear hf HFl ec
      go_enter Try.func18, Try.ntmps18
      go_wp2_with fail
      refine HC.out.mono ?_
      rintro e wq ⟨rfl, mq, rfl⟩
      go_wp2_with fail
      refine (HNo.out _).mono ?_
      rintro e wr ⟨rfl, rfl⟩
      unfold Er.enc
      go_wp2_with fail
      go_ret2
      rw [HA.out]
      have hk : Below w.heap.size w (w.drewN mq) := below_drewN (Below.refl _ _) mq
      exact ⟨rfl, F, HDw.out.below hk, HJw.out.below hk, fun k hk => .inl hk, Keep.of_below hk _⟩
    · have hbl : r.length ≤ 65536 := by rw [Hlen.out]; omega
      have Hfl2 : Held ((frameL (j.last + 1) r).length ≤ 70000) := ⟨by
        rw [frameL_length]
        have f1 := form_length r.length (by unfold U64; omega)
        have f2 := form_length (j.last + 1) (by unfold U64; omega)
        omega⟩
      have HFr := Held.mk (fun W (h : RdN W ok .u8 A n r) => frame_in ok (j.last + 1) A n c r W h (by omega) (by unfold U64; omega) HBy.out)
      have ec : ((j.last + 1 : Nat) : Int) = (j.last : Int) + 1 := by omega
      rw [ec] at HFr
      have c3 := HJB.out.cell 3
      have hbw : ¬ 65536 < r.length := by omega
      cases hw : writeOk s (frameL (j.last + 1) r) with
      | false =>
        have HA : Held (appS s j r = ((writeS s (frameL (j.last + 1) r)).1, j, 0, (writeS s (frameL (j.last + 1) r)).2)) := ⟨by unfold appS; rw [if_neg (by simpa using hf), if_neg hbw, hw]; rfl⟩
        obtain ⟨T, v, hv⟩ := writeOk_no hw
        have Hv := Held.mk hv
        clear hf HFl ec hw hv hbl hbw
        generalize frameL (j.last + 1) r = fr at *
        go_enter Try.func18, Try.ntmps18
        go_wp2_with fail
        refine HC.out.mono ?_
        rintro e wq ⟨rfl, mq, rfl⟩
        have hk : Below w.heap.size w (w.drewN mq) := below_drewN (Below.refl _ _) mq
        go_wp2_with fail
        refine (HFr.out _ (HR.out.keep (Keep.of_below hk (fun _ => False)) (fun _ _ h => h))).mono ?_
        rintro e w1 ⟨u, rfl, ho, hb1⟩
        have HB1 : Held (Below w.heap.size w w1) := ⟨hk.trans (hb1.mono hk.size)⟩
        obtain ⟨Au, cu, rfl, hcu, hru⟩ := rd_own ho
        have HWr := Held.mk (write_any F P s _ Au fr.length cu fr w1 (HDw.out.below HB1.out) HG.out hru (fun k hk => Nat.lt_of_lt_of_le (HFF.out k hk) HB1.out.size) (by have := Hfl2.out; omega))
        have c0 := (HJB.out.keep (Keep.of_below HB1.out (fun _ => False)) (fun h => h)).cell 0
        rw [Hv.out] at HWr
        clear hk ho hb1 hru
        go_wp2_with fail
        refine HWr.out.mono ?_
        rintro e w2 ⟨rfl, hD2, hK2⟩
        have HD2 := Held.mk hD2
        have HK2 := Held.mk hK2
        clear hD2 hK2 HWr
        go_wp2_with fail
        go_ret2
        rw [HA.out]
        refine ⟨by simp only [Hv.out]; rfl, _, HD2.out, (HJw.out.below HB1.out).next HK2.out, fun k h => h.imp id fun h => ⟨Nat.le_trans HB1.out.size h.1, h.2⟩, ?_⟩
        exact ((Keep.of_below HB1.out F).trans HK2.out).mono (fun _ _ h => .inl h)
      | true =>
        have HA : Held (appS s j r = ((writeS s (frameL (j.last + 1) r)).1, (⟨j.fl, j.last + 1, j.synced⟩ : JS), ((j.last : Int) + 1), Value.nilIface)) := ⟨by unfold appS; rw [if_neg (by simpa using hf), if_neg hbw, hw]; rfl⟩
        have Hv := Held.mk (writeOk_ok hw)
        clear hf HFl ec hw hbl hbw
        generalize frameL (j.last + 1) r = fr at *
        go_enter Try.func18, Try.ntmps18
        go_wp2_with fail
        refine HC.out.mono ?_
        rintro e wq ⟨rfl, mq, rfl⟩
        have hk : Below w.heap.size w (w.drewN mq) := below_drewN (Below.refl _ _) mq
        go_wp2_with fail
        refine (HFr.out _ (HR.out.keep (Keep.of_below hk (fun _ => False)) (fun _ _ h => h))).mono ?_
        rintro e w1 ⟨u, rfl, ho, hb1⟩
        have HB1 : Held (Below w.heap.size w w1) := ⟨hk.trans (hb1.mono hk.size)⟩
        obtain ⟨Au, cu, rfl, hcu, hru⟩ := rd_own ho
        have HWr := Held.mk (write_any F P s _ Au fr.length cu fr w1 (HDw.out.below HB1.out) HG.out hru (fun k hk => Nat.lt_of_lt_of_le (HFF.out k hk) HB1.out.size) (by have := Hfl2.out; omega))
        have c0 := (HJB.out.keep (Keep.of_below HB1.out (fun _ => False)) (fun h => h)).cell 0
        rw [Hv.out] at HWr
        clear hk ho hb1 hru
        go_wp2_with fail
        refine HWr.out.mono ?_
        rintro e w2 ⟨rfl, hD2, hK2⟩
        have HD2 := Held.mk hD2
        have HK2 := Held.mk hK2
        have HJ2 := Held.mk ((HJB.out.keep (Keep.of_below HB1.out (fun _ => False)) (fun h => h)).keep hK2 HJw.out.jF)
        have k3 := HJ2.out.cell 3
        have f3 := HJ2.out.frozen 3
        clear hD2 hK2 HWr
        go_wp2_with fail
        go_ret2
        rw [HA.out]
        have hj := (HJw.out.below HB1.out).next HK2.out
        have hkj := kp (P := J) (i := 3) (w := w2) (.int .i64 ((j.last : Int) + 1))
        refine ⟨rfl, Nw F w1 w2, HD2.out.keep_ hkj (fun k hF _ e => by subst e; exact hj.jF hF), hj.set_.1, fun k h => by rcases h with h | h; exact .inl h; exact .inr ⟨Nat.le_trans HB1.out.size h.1, by simpa using h.2⟩, ?_⟩
        exact (((Keep.of_below HB1.out F).trans HK2.out).mono (T := fun k => F k ∨ k = J) (fun _ _ h => .inl h)).then hkj (fun i _ e => .inr e)
  · have HC := Held.mk (HFl.out true (by simp [hf]))
    have HA : Held (appS s j r = (s, j, 0, deadV wAppend)) := ⟨by unfold appS; rw [if_pos (by simpa using hf)]⟩
    clear hf HFl
    go_enter Try.func18, Try.ntmps18
    go_wp2_with fail
    refine HC.out.mono ?_
    rintro e wq ⟨rfl, mq, rfl⟩
    go_wp2_with fail
    refine (dead_any _ _).mono ?_
    rintro e wr ⟨rfl, rfl⟩
    go_wp2_with fail
    go_ret2
    rw [HA.out]
    have hk : Below w.heap.size w (w.drewN mq) := below_drewN (Below.refl _ _) mq
    exact ⟨rfl, F, HDw.out.below hk, HJw.out.below hk, fun k hk => .inl hk, Keep.of_below hk _⟩
set_option maxHeartbeats 4000000 in
set_option maxRecDepth 100000 in
theorem jsync_any (F : Nat → Prop) (J P : Nat) (s : DS) (j : JS) (w : World) (hD : Dk w F P s) (hJ : Jk w F J P j) (hs : s.Good) (hF : ∀ k, F k → k < w.heap.size) :
    Calls Try.prog 19 #[.pointer (some ⟨J, 0, none⟩)] w (AppP F J P (jsyncS s j) w) := by
  have HDw := Held.mk hD
  have HJw := Held.mk hJ
  have HFF := Held.mk hF
  have HG := Held.mk hs
  obtain ⟨bd, ba, h1, h2, h3, h4, h5⟩ := hJ.ex
  have c2 := h1.cell 2
  have HJB := Held.mk h1
  have HFl := Held.mk (fun b hb => jfailed_any b F P bd ba s j.fl w hD h2 h3 hb)
  clear hD hJ hs hF h1 h2 h3 h4 h5
  by_cases hf : s.failed = j.fl
  · have HC := Held.mk (HFl.out false (by simp [hf]))
    have c1 := HJB.out.cell 1
    have HSy := Held.mk (fun m => sync_any F P s (w.drewN m) (HDw.out.below (below_drewN (Below.refl _ _) m)) HG.out HFF.out)
    cases hw : syncOk s with
    | false =>
      have HA : Held (jsyncS s j = ((syncS s).1, j, 0, (syncS s).2)) := ⟨by unfold jsyncS; rw [if_neg (by simpa using hf), hw]; rfl⟩
      have Hv := Held.mk (syncOk_no hw)
      rw [Hv.out] at HSy
      unfold deadV at HSy
      clear hf HFl hw
      go_enter Try.func19, Try.ntmps19
      go_wp2_with fail
      refine HC.out.mono ?_
      rintro e wq ⟨rfl, mq, rfl⟩
      go_wp2_with fail
      refine (HSy.out mq).mono ?_
      rintro e w2 ⟨rfl, hD2, hK2⟩
      have HD2 := Held.mk hD2
      have HK2 := Held.mk hK2
      clear hD2 hK2 HSy
      go_wp2_with fail
      go_ret2
      rw [HA.out]
      have hk : Below w.heap.size w (w.drewN mq) := below_drewN (Below.refl _ _) mq
      refine ⟨by simp only [Hv.out]; rfl, _, HD2.out, (HJw.out.below hk).next HK2.out, fun k h => h, ?_⟩
      exact ((Keep.of_below hk F).trans HK2.out).mono (fun _ _ h => .inl h)
    | true =>
      have HA : Held (jsyncS s j = ((syncS s).1, (⟨j.fl, j.last, j.last⟩ : JS), (j.last : Int), Value.nilIface)) := ⟨by unfold jsyncS; rw [if_neg (by simpa using hf), hw]; rfl⟩
      have Hv := Held.mk (syncOk_ok hw).1
      rw [Hv.out] at HSy
      clear hf HFl hw
      go_enter Try.func19, Try.ntmps19
      go_wp2_with fail
      refine HC.out.mono ?_
      rintro e wq ⟨rfl, mq, rfl⟩
      go_wp2_with fail
      refine (HSy.out mq).mono ?_
      rintro e w2 ⟨rfl, hD2, hK2⟩
      have HD2 := Held.mk hD2
      have HK2 := Held.mk hK2
      have HJ2 := Held.mk ((HJB.out.keep (Keep.of_below (below_drewN (Below.refl _ _) mq) (fun _ => False)) (fun h => h)).keep hK2 HJw.out.jF)
      have k3 := HJ2.out.cell 3
      have k4 := HJ2.out.cell 4
      have f4 := HJ2.out.frozen 4
      clear hD2 hK2 HSy
      go_wp2_with fail
      go_ret2
      rw [HA.out]
      have hk : Below w.heap.size w (w.drewN mq) := below_drewN (Below.refl _ _) mq
      have hj := (HJw.out.below hk).next HK2.out
      have hkj := kp (P := J) (i := 4) (w := w2) (.int .i64 (j.last : Int))
      refine ⟨rfl, Nw F (w.drewN mq) w2, HD2.out.keep_ hkj (fun k hF _ e => by subst e; exact hj.jF hF), hj.set_.2, fun k h => by rcases h with h | h; exact .inl h; exact .inr ⟨h.1, by simpa using h.2⟩, ?_⟩
      exact (((Keep.of_below hk F).trans HK2.out).mono (T := fun k => F k ∨ k = J) (fun _ _ h => .inl h)).then hkj (fun i _ e => .inr e)
  · have HC := Held.mk (HFl.out true (by simp [hf]))
    have HA : Held (jsyncS s j = (s, j, 0, .iface 60 (.int .i64 23))) := ⟨by unfold jsyncS; rw [if_pos (by simpa using hf)]⟩
    clear hf HFl
    go_enter Try.func19, Try.ntmps19
    go_wp2_with fail
    refine HC.out.mono ?_
    rintro e wq ⟨rfl, mq, rfl⟩
    go_wp2_with fail
    go_ret2
    rw [HA.out]
    have hk : Below w.heap.size w (w.drewN mq) := below_drewN (Below.refl _ _) mq
    exact ⟨rfl, F, HDw.out.below hk, HJw.out.below hk, fun k hk => .inl hk, Keep.of_below hk _⟩
end Jrn
end Go.Proofs.Ytihgmlcmdpmhhaa
