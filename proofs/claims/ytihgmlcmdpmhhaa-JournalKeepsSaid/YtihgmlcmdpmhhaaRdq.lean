/- A new disk, the program's and the document's: walked. -/
import Derived.Test.YtihgmlcmdpmhhaaDdr
namespace Go.Proofs.Ytihgmlcmdpmhhaa
set_option linter.unusedVariables false
set_option linter.unusedSimpArgs false
namespace Jrn
open Go.RowKit Mem Apn
def newS (b : List Int) : DS := ⟨b, b, b.length, false, 0, 0, 0⟩
set_option maxHeartbeats 4000000 in
set_option maxRecDepth 100000 in
theorem new_any (ok : Nat → Prop) (A : Option Addr) (n c : Nat) (b : List Int) (w : World) (hr : RdN w ok .u8 A n b) (hn : n ≤ 1000000000) :
    Calls Try.prog 11 #[.slice A n c] w fun e w' => ∃ P, e = .returned (.pointer (some ⟨P, 0, none⟩)) ∧ w.heap.size ≤ P ∧ Dk w' (fun k => w.heap.size ≤ k ∧ k < w'.heap.size) P (newS b) ∧ Below w.heap.size w w' := by
  have hbl := hr.len
  have HO := Held.mk (own_any ok A n c b w hr (by omega))
  have HR := Held.mk hr
  clear hr
  go_enter Try.func11, Try.ntmps11
  go_wp2_with fail
  refine HO.out.mono ?_
  rintro e w1 ⟨v1, rfl, ho1, hb1⟩
  have HO1 := Held.mk ho1
  have HB1 := Held.mk hb1
  have HOx := Held.mk (own_any ok A n c b w1 (RdV.keep HR.out (Keep.of_below hb1 (fun _ => False)) (fun _ _ h => h)) (by omega))
  clear ho1 hb1 HO
  go_wp2_with fail
  refine HOx.out.mono ?_
  rintro e w2 ⟨v2, rfl, ho2, hb2⟩
  have HO2 := Held.mk ho2
  have HB2 := Held.mk hb2
  obtain ⟨A1, hA1⟩ := HO1.out.2
  obtain ⟨A2, hA2⟩ := HO2.out.2
  subst hA1
  subst hA2
  clear ho2 hb2 HOx
  rw [hbl] at HO1 HO2
  rw [hbl]
  go_wp2_with fail
  go_ret
  have hk : Keep (fun _ => False) w2 (w2.alloc (.cells #[.slice A1 n n, .slice A2 n n, .int .i64 (n : Int), .bool false, .int .i64 0, .bool false, .int .i64 0, .int .i64 0] 73)) := (Keep.refl _ w2).alloc _
  have hb := Blk.new w2 73 #[.slice A1 n n, .slice A2 n n, .int .i64 (n : Int), .bool false, .int .i64 0, .bool false, .int .i64 0, .int .i64 0]
  have s1 := HB1.out.size
  have s2 := HB2.out.size
  have o1 := hk.own ((Keep.of_below HB2.out (fun _ => False)).own HO1.out.1 (fun _ _ h => h)) (fun _ _ h => h)
  have o2 := hk.own HO2.out.1 (fun _ _ h => h)
  refine ⟨w2.heap.size, rfl, by omega, ⟨⟨.slice A1 n n, .slice A2 n n, false, 0, ?_, own_rebase o1 (fun _ _ => Nat.zero_le _), own_rebase o2 (fun _ _ => Nat.zero_le _), ?_, .inr ⟨rfl, rfl⟩, ?_, ?_⟩, ?_⟩, ?_⟩
  · simpa [newS, hbl] using hb
  · intro k h1 h2
    have := own_lt HO1.out.1 k h1
    have := own_ge HO2.out.1 k h2
    omega
  · intro k h1
    have := own_lt HO1.out.1 k h1
    have := own_ge HO1.out.1 k h1
    exact ⟨by omega, by rw [World.size_alloc]; omega⟩
  · intro k h1
    have := own_lt HO2.out.1 k h1
    have := own_ge HO2.out.1 k h1
    exact ⟨by omega, by rw [World.size_alloc]; omega⟩
  · exact ⟨by omega, by rw [World.size_alloc]; omega⟩
  · exact (HB1.out.trans (HB2.out.mono s1)).alloc (by omega) _
end Jrn
end Go.Proofs.Ytihgmlcmdpmhhaa
