/-
  The law NumTexts, with the listed variables tied to the program's text, is true and changes nothing that was there, whatever the input. No condition.
-/
import Derived.Test.YtppjhnepmolboaaDoorProg
import Derived.Test.YtppjhnepmolboaaDoorVd
import Derived.Test.YtppjhnepmolboaaDoorNum
import Derived.Test.YtppjhnepmolboaaDoorLaid
import Derived.Stop.LaidErr
import Derived.RowKitTokens

section
open Go Go.Vc
namespace Go.Proofs
set_option maxRecDepth 100000
/-- strconv.toError -/
theorem ToErrSynV (x0 : ByteArray) (x1 : ByteArray) (H : Heap) (R : Value → Heap → Prop) : Walk Tryd.prog 34 [] [(.string x0), (.string x1), (.int .i64 16), (.int .i64 64), (.iface 64 (.int .i64 2))] H R = (
  ((((2 : Int) = 2) → (
        Does Tryd.prog 46 [(.string x0), (.string x1)] H fun v1 H2 => ∃ p3 : Option Addr, v1 = (.pointer p3) ∧ (
          R (.iface 67 (.pointer p3)) H2))) ∧ (¬ ((2 : Int) = 2) → (
        ((((2 : Int) = 1) → (
              Does Tryd.prog 47 [(.string x0), (.string x1)] H fun v4 H5 => ∃ p6 : Option Addr, v4 = (.pointer p6) ∧ (
                R (.iface 67 (.pointer p6)) H5))) ∧ (¬ ((2 : Int) = 1) → (
              ((((2 : Int) = 3) → (
                    Does Tryd.prog 48 [(.string x0), (.string x1), (.int .i64 16)] H fun v7 H8 => ∃ p9 : Option Addr, v7 = (.pointer p9) ∧ (
                      R (.iface 67 (.pointer p9)) H8))) ∧ (¬ ((2 : Int) = 3) → (
                    ((((2 : Int) = 4) → (
                          Does Tryd.prog 49 [(.string x0), (.string x1), (.int .i64 64)] H fun v10 H11 => ∃ p12 : Option Addr, v10 = (.pointer p12) ∧ (
                            R (.iface 67 (.pointer p12)) H11))) ∧ (¬ ((2 : Int) = 4) → (
                          R (.iface 64 (.int .i64 2)) H))))))))))))) := by kernel_rfl


/-- strconv.toError -/
theorem ToErrRngV (x0 : ByteArray) (x1 : ByteArray) (H : Heap) (R : Value → Heap → Prop) : Walk Tryd.prog 34 [] [(.string x0), (.string x1), (.int .i64 16), (.int .i64 64), (.iface 64 (.int .i64 1))] H R = (
  ((((1 : Int) = 2) → (
        Does Tryd.prog 46 [(.string x0), (.string x1)] H fun v1 H2 => ∃ p3 : Option Addr, v1 = (.pointer p3) ∧ (
          R (.iface 67 (.pointer p3)) H2))) ∧ (¬ ((1 : Int) = 2) → (
        ((((1 : Int) = 1) → (
              Does Tryd.prog 47 [(.string x0), (.string x1)] H fun v4 H5 => ∃ p6 : Option Addr, v4 = (.pointer p6) ∧ (
                R (.iface 67 (.pointer p6)) H5))) ∧ (¬ ((1 : Int) = 1) → (
              ((((1 : Int) = 3) → (
                    Does Tryd.prog 48 [(.string x0), (.string x1), (.int .i64 16)] H fun v7 H8 => ∃ p9 : Option Addr, v7 = (.pointer p9) ∧ (
                      R (.iface 67 (.pointer p9)) H8))) ∧ (¬ ((1 : Int) = 3) → (
                    ((((1 : Int) = 4) → (
                          Does Tryd.prog 49 [(.string x0), (.string x1), (.int .i64 64)] H fun v10 H11 => ∃ p12 : Option Addr, v10 = (.pointer p12) ∧ (
                            R (.iface 67 (.pointer p12)) H11))) ∧ (¬ ((1 : Int) = 4) → (
                          R (.iface 64 (.int .i64 1)) H))))))))))))) := by kernel_rfl


/-- strconv.syntaxError -/
theorem SynErrV (x0 : ByteArray) (x1 : ByteArray) (H : Heap) (R : Value → Heap → Prop) : Walk Tryd.prog 46 [] [(.string x0), (.string x1)] H R = (
  ∃ v1 : Value, hcell H 2 0 = some v1 ∧ (
    Does Tryd.prog 57 [(.string x1)] H fun v2 H3 => ∃ s4 : ByteArray, v2 = (.string s4) ∧ (
      isL H3 2 0 [v1] ∧ (oneV v1 (fun u5 : Value => (
            ∀ b6 : Nat, ∀ H7 : Heap, New H3 b6 [(.string x0), (.string s4), u5] 81 H7 → (
              (R (.pointer (some (⟨b6, 0, none⟩ : Addr))) H7)))))))) := by kernel_rfl


/-- strconv.rangeError -/
theorem RngErrV (x0 : ByteArray) (x1 : ByteArray) (H : Heap) (R : Value → Heap → Prop) : Walk Tryd.prog 47 [] [(.string x0), (.string x1)] H R = (
  ∃ v1 : Value, hcell H 3 0 = some v1 ∧ (
    Does Tryd.prog 57 [(.string x1)] H fun v2 H3 => ∃ s4 : ByteArray, v2 = (.string s4) ∧ (
      isL H3 3 0 [v1] ∧ (oneV v1 (fun u5 : Value => (
            ∀ b6 : Nat, ∀ H7 : Heap, New H3 b6 [(.string x0), (.string s4), u5] 81 H7 → (
              (R (.pointer (some (⟨b6, 0, none⟩ : Addr))) H7)))))))) := by kernel_rfl


/-- internal/stringslite.Clone -/
theorem CloneV (x0 : ByteArray) (H : Heap) (R : Value → Heap → Prop) : Walk Tryd.prog 57 [] [(.string x0)] H R = (
  (((((ByteArray.size x0 : Int) : Int) = 0) → (
        R (.string (ByteArray.mk #[])) H)) ∧ (¬ (((ByteArray.size x0 : Int) : Int) = 0) → (
        (0 : Int) ≤ (ByteArray.size x0 : Int) ∧ ((ByteArray.size x0 : Int) : Int) ≤ (ByteArray.size x0 : Int) ∧ (1 : Int) * (ByteArray.size x0 : Int) ≤ 281474976710656 ∧ ∀ b1 : Nat, ∀ H2 : Heap, New H b1 (List.replicate (Int.toNat (ByteArray.size x0 : Int)) (.int .u8 0)) 5 H2 → (
          roomOf H2 (some (⟨b1, 0, none⟩ : Addr)) 0 (min (ByteArray.size x0) (Int.toNat (ByteArray.size x0 : Int))) ∧ ∀ H3 : Heap, Copied H2 (some (⟨b1, 0, none⟩ : Addr)) (List.map (fun b => Value.int .u8 (UInt8.toNat b)) (Array.toList (ByteArray.data (ByteArray.extract x0 0 (min (ByteArray.size x0) (Int.toNat (ByteArray.size x0 : Int))))))) H3 → (
            (0 : Int) ≤ 0 ∧ (0 : Int) < ((Int.toNat (ByteArray.size x0 : Int)) : Int) ∧ ∃ b4 o5 : Nat, (some (⟨b1, 0, none⟩ : Addr)) = some (⟨b4, o5, none⟩ : Addr) ∧ (
              ∃ l6 : List UInt8, l6 ≠ [] ∧ (o5 + (Int.toNat 0)) = 0 ∧ (((Int.toNat (ByteArray.size x0 : Int)) : Int) : Int) = (List.length l6 : Nat) ∧ In64 ((Int.toNat (ByteArray.size x0 : Int)) : Int) ∧ Bytes H3 b4 5 l6 ∧ ∀ H7 : Heap, Froz H3 b4 H7 → (
                R (.string (ByteArray.mk (List.toArray l6))) H7)))))))) := by kernel_rfl


/-- pentimento/pentimentolaw2.NumTexts -/
theorem TextsV (x0 : Int) (x1 : Nat) (x2 : ByteArray) (x3 : Int) (x4 : Int) (x5 : Int) (H : Heap) (R : Value → Heap → Prop) : Walk Tryd.prog 3 [(14, [(13, (.float .f64 0)), (14, (.string (ByteArray.mk #[])))])] [(.int .i64 x0), (.float .f64 x1), (.string x2), (.int .i64 x3), (.int .i64 x4), (.int .u8 x5)] H R = (
  Does Tryd.prog 6 [(.int .i64 x0), (.float .f64 x1)] H fun v1 H2 => ∃ f3 : Nat, v1 = (.float .f64 f3) ∧ (
    Does Tryd.prog 7 [(.float .f64 f3)] H2 fun v4 H5 => ∃ s6 : ByteArray, v4 = (.string s6) ∧ (
      Does Tryd.prog 8 [(.float .f64 f3)] H5 fun v7 H8 => ∃ s9 : ByteArray, v7 = (.string s9) ∧ (
        ((((s9 : ByteArray) ≠ s6) → (
              R (.bool false) H8)) ∧ (¬ ((s9 : ByteArray) ≠ s6) → (
              ∃ I10 : Nat → ByteArray → Heap → Prop, (
                Does Tryd.prog 9 [(.int .i64 x3), (.int .i64 4)] H8 fun v11 H12 => ∃ n13 : Int, v11 = (.int .i64 n13) ∧ (
                  ((((n13 : Int) = 0) → (
                        I10 f3 x2 H12)) ∧ (¬ ((n13 : Int) = 0) → (
                        ((((n13 : Int) = 1) → (
                              Does Tryd.prog 9 [(.int .i64 x4), (.int .i64 16)] H12 fun v14 H15 => ∃ n16 : Int, v14 = (.int .i64 n16) ∧ (
                                (0 : Int) ≤ n16 ∧ (n16 : Int) ≤ ((ByteArray.size s6) : Int) ∧ (
                                  (In64 (n16 + 1)) ∧
                                  (0 : Int) ≤ (n16 + 1) ∧ ((n16 + 1) : Int) ≤ ((ByteArray.size s6) : Int) ∧ (
                                    ∀ b17 : Nat, ∀ H18 : Heap, New H15 b17 [(.int .u8 x5)] 5 H18 → (
                                      (∃ l19 : List UInt8, SRow H18 1 1 (.slice (some (⟨b17, 0, none⟩ : Addr)) 1 1) (List.map (fun (b : UInt8) => Value.int .u8 b.toNat) l19) ∧ (
                                          (In64 (((ByteArray.size (ByteArray.extract s6 0 (Int.toNat n16))) + (ByteArray.size (ByteArray.mk (List.toArray l19))) : Nat) : Int)) ∧
                                          (In64 (((ByteArray.size ((ByteArray.extract s6 0 (Int.toNat n16)) ++ (ByteArray.mk (List.toArray l19)))) + (ByteArray.size (ByteArray.extract s6 (Int.toNat (n16 + 1)) (ByteArray.size s6))) : Nat) : Int)) ∧
                                          I10 f3 (((ByteArray.extract s6 0 (Int.toNat n16)) ++ (ByteArray.mk (List.toArray l19))) ++ (ByteArray.extract s6 (Int.toNat (n16 + 1)) (ByteArray.size s6))) H18)))))))) ∧ (¬ ((n13 : Int) = 1) → (
                              ((((n13 : Int) = 2) → (
                                    Does Tryd.prog 9 [(.int .i64 x4), (.int .i64 16)] H12 fun v20 H21 => ∃ n22 : Int, v20 = (.int .i64 n22) ∧ (
                                      (0 : Int) ≤ n22 ∧ (n22 : Int) ≤ ((ByteArray.size s6) : Int) ∧ (
                                        ((16 : Int) ≠ 0) ∧
                                        ∀ q23 : Int, q23 = IntKind.wrap .i64 (Int.tdiv x4 16) → (
                                          (In64 (n22 + 1)) ∧
                                          (0 : Int) ≤ (n22 + 1) ∧ ((n22 + 1) : Int) ≤ ((ByteArray.size s6) : Int) ∧ (
                                            Does Tryd.prog 9 [(.int .i64 q23), (.int .i64 6)] H21 fun v24 H25 => ∃ n26 : Int, v24 = (.int .i64 n26) ∧ (
                                              ((0 : Int) ≤ n26 ∧ (n26 : Int) < (6 : Nat) ∧ (n26 : Int) < (6 : Nat) ∧ ∀ s27 : ByteArray, s27 = (List.getD [(ByteArray.mk #[48]), (ByteArray.mk #[55]), (ByteArray.mk #[56]), (ByteArray.mk #[102]), (ByteArray.mk #[70]), (ByteArray.mk #[])] (Int.toNat n26) ByteArray.empty) → (
                                                  (In64 (((ByteArray.size (ByteArray.extract s6 0 (Int.toNat n22))) + (ByteArray.size s27) : Nat) : Int)) ∧
                                                  (In64 (((ByteArray.size ((ByteArray.extract s6 0 (Int.toNat n22)) ++ s27)) + (ByteArray.size (ByteArray.extract s6 (Int.toNat (n22 + 1)) (ByteArray.size s6))) : Nat) : Int)) ∧
                                                  I10 f3 (((ByteArray.extract s6 0 (Int.toNat n22)) ++ s27) ++ (ByteArray.extract s6 (Int.toNat (n22 + 1)) (ByteArray.size s6))) H25))))))))) ∧ (¬ ((n13 : Int) = 2) → (
                                    I10 f3 s6 H12))))))))))) ∧
              ∀ f28 : Nat, ∀ s29 : ByteArray, ∀ H30 : Heap, I10 f28 s29 H30 → (
                Does Tryd.prog 10 [(.string s29)] H30 fun v31 H32 => ∃ f33 : Nat, ∃ t34 : Bool, v31 = (.tuple #[(.float .f64 f33), (.bool t34)]) ∧ (
                  Does Tryd.prog 11 [(.string s29)] H32 fun v35 H36 => ∃ f37 : Nat, ∃ t38 : Bool, v35 = (.tuple #[(.float .f64 f37), (.bool t38)]) ∧ (
                    Does Tryd.prog 12 [] H36 fun v39 H40 => ∃ t41 : Bool, v39 = (.bool t41) ∧ (
                      ((t41 = true → (
                            ((((t34 = true) ↔ (t38 = true)) → (
                                  R (.bool (@decide (((f33 : Nat) : Int) = (f37 : Nat)) (Classical.propDecidable _))) H40)) ∧ (¬ ((t34 = true) ↔ (t38 = true)) → (
                                  R (.bool false) H40))))) ∧ (t41 = false → (
                            R (.bool false) H40)))))))))))))) := by kernel_rfl


end Go.Proofs
end

section
open Go Go.Vc
namespace Go.Proofs

theorem hsets_typ {b : Nat} {e : TypeId} {f : Nat × Nat} : ∀ (vs : List Value) (o : Nat) (H : Heap) (cs : Array Value), H[b]? = some (.cells cs e f) → ∃ cs', (hsets H b o vs)[b]? = some (.cells cs' e f)
  | [], _, _, cs, h => ⟨cs, h⟩
  | v :: r, o, H, cs, h => by
    refine hsets_typ r (o + 1) (hset H b o v) (cs.setIfInBounds o v) ?_
    simp [hset, Array.getElem?_modify, h]

theorem _root_.Go.Vc.Froz.ext {H H' : Heap} {b : Nat} (h : Froz H b H') : Ext [b] H H' := by
  obtain ⟨h1, h2⟩ := h
  exact ⟨by rw [h1]; exact Nat.le_refl _, fun k _ hk => h2 k (by simpa using hk)⟩

theorem clone_ok {s : ByteArray} (hs : s.size ≤ 140737488351232) (H : Heap) : Does Tryd.prog 57 [.string s] H fun v H' => v = .string s ∧ Ext [] H H' := by
  have hm : s.size ≤ 140737488351232 := hs
  refine Fn_of_vc Tryd.mixed (CloneV _ _ _) ?_
  refine ⟨fun e => ⟨?_, Ext.refl _ _⟩, fun e => ⟨by omega, by omega, by omega, ?_⟩⟩
  · have : s = ⟨#[]⟩ := by
      apply ByteArray.ext
      exact Array.eq_empty_of_size_eq_zero (by have : s.data.size = s.size := rfl; omega)
    rw [this]
  · intro b H2 hn
    have hmin : min s.size (Int.toNat (s.size : Int)) = s.size := by omega
    have hl : s.data.toList.length = s.size := Array.length_toList
    rw [hmin]
    have hex : (s.extract 0 s.size) = s := by simp
    rw [hex]
    have hb := hn.blk
    refine ⟨⟨rfl, hb.cells _ _ (by simp)⟩, fun H3 hc => ⟨by omega, by omega, b, 0, rfl, s.data.toList, ?_, by simp, by omega, ⟨by omega, by omega⟩, ?_, fun H7 hf => ?_⟩⟩
    · intro h; rw [h] at hl; simp at hl; omega
    · have hc' : H3 = hsets H2 b 0 (bytesV s.data.toList) := hc
      have hblk := hsets_blk (bytesV s.data.toList) 0 H2 _ hb (by rw [bytesV_length]; simp)
      rw [← hc'] at hblk
      obtain ⟨e', hblk⟩ := hblk
      obtain ⟨hbe, hH2⟩ := hn
      have ht : H2[b]? = some (.cells (List.replicate (Int.toNat (s.size : Int)) (Value.int .u8 0)).toArray 5 (0, 0)) := by rw [hbe, hH2]; simp
      obtain ⟨cs', h4⟩ := hsets_typ (bytesV s.data.toList) 0 H2 _ ht
      rw [← hc'] at h4
      have h5 := h4
      rw [hblk] at h5
      have he : e' = 5 := by simp at h5; exact h5.2
      rw [he] at hblk
      have hsp : splice (List.replicate (Int.toNat (s.size : Int)) (Value.int .u8 0)) 0 (bytesV s.data.toList) = bytesV s.data.toList := by
        simp [splice, bytesV_length, hl]
      rw [hsp] at hblk
      refine ⟨_, _, hblk, by simp [bytesV_length], fun j x hj => ?_⟩
      simp [bytesV, hj]
    · refine ⟨rfl, (hn.ext.trans' (M := []) (N := [b]) ?_ ?_).trans' hf.ext ?_⟩
      · have hc' : H3 = hsets H2 b 0 (bytesV s.data.toList) := hc
        rw [hc']
        exact (hsets_ext _ _).1
      · intro i hi; simp only [List.mem_singleton] at hi; have := hn.eq; omega
      · intro i hi; simp only [List.mem_singleton] at hi; have := hn.eq; omega

/-- The two errors that the package strconv lays. -/
def ErrH (H : Heap) : Prop := (∃ t u, hcell H 2 0 = some (.iface t u)) ∧ (∃ t u, hcell H 3 0 = some (.iface t u))
theorem ErrH.ext {H H' : Heap} (h : ErrH H) (he : Ext [] H H') : ErrH H' := by
  obtain ⟨⟨t, u, h1⟩, ⟨t', u', h2⟩⟩ := h
  exact ⟨⟨t, u, hcell_ext h1 he (by simp)⟩, ⟨t', u', hcell_ext h2 he (by simp)⟩⟩

theorem synErr_ok (f : ByteArray) {s : ByteArray} (hs : s.size ≤ 140737488351232) {H : Heap} (h : ErrH H) : Does Tryd.prog 46 [.string f, .string s] H fun v H' => (∃ p, v = .pointer p) ∧ Ext [] H H' := by
  refine Fn_of_vc Tryd.mixed (SynErrV _ _ _ _) ?_
  obtain ⟨t, u, h1⟩ := h.1
  refine ⟨_, h1, (clone_ok hs H).mono ?_⟩
  rintro _ H3 ⟨rfl, hx⟩
  refine ⟨_, rfl, ⟨hcell_ext h1 hx (by simp), trivial⟩, ?_⟩
  intro b H7 hn
  exact ⟨⟨_, rfl⟩, hx.trans hn.ext⟩
theorem rngErr_ok (f : ByteArray) {s : ByteArray} (hs : s.size ≤ 140737488351232) {H : Heap} (h : ErrH H) : Does Tryd.prog 47 [.string f, .string s] H fun v H' => (∃ p, v = .pointer p) ∧ Ext [] H H' := by
  refine Fn_of_vc Tryd.mixed (RngErrV _ _ _ _) ?_
  obtain ⟨t, u, h1⟩ := h.2
  refine ⟨_, h1, (clone_ok hs H).mono ?_⟩
  rintro _ H3 ⟨rfl, hx⟩
  refine ⟨_, rfl, ⟨hcell_ext h1 hx (by simp), trivial⟩, ?_⟩
  intro b H7 hn
  exact ⟨⟨_, rfl⟩, hx.trans hn.ext⟩

theorem toErrSyn_ok (f : ByteArray) {s : ByteArray} (hs : s.size ≤ 140737488351232) {H : Heap} (h : ErrH H) : Does Tryd.prog 34 [.string f, .string s, .int .i64 16, .int .i64 64, .iface 64 (.int .i64 2)] H fun v H' => (∃ t u, v = .iface t u) ∧ Ext [] H H' := by
  refine Fn_of_vc Tryd.mixed (ToErrSynV _ _ _ _) ?_
  refine ⟨fun _ => (synErr_ok f hs h).mono ?_, fun e => absurd rfl e⟩
  rintro _ H2 ⟨⟨p, rfl⟩, hx⟩
  exact ⟨_, rfl, ⟨_, _, rfl⟩, hx⟩
theorem toErrRng_ok (f : ByteArray) {s : ByteArray} (hs : s.size ≤ 140737488351232) {H : Heap} (h : ErrH H) : Does Tryd.prog 34 [.string f, .string s, .int .i64 16, .int .i64 64, .iface 64 (.int .i64 1)] H fun v H' => (∃ t u, v = .iface t u) ∧ Ext [] H H' := by
  refine Fn_of_vc Tryd.mixed (ToErrRngV _ _ _ _) ?_
  refine ⟨fun e => absurd e (by decide), fun _ => ⟨fun _ => (rngErr_ok f hs h).mono ?_, fun e => absurd rfl e⟩⟩
  rintro _ H2 ⟨⟨p, rfl⟩, hx⟩
  exact ⟨_, rfl, ⟨_, _, rfl⟩, hx⟩

theorem pu_bound : ∀ (l : List UInt8) (acc n : Int), 0 ≤ acc → acc < 18446744073709551616 → pu acc l = .ok n → 0 ≤ n ∧ n < 18446744073709551616
  | [], acc, n, h0, h1, h => by simp only [pu, PR.ok.injEq] at h; omega
  | c :: r, acc, n, h0, h1, h => by
    simp only [pu] at h
    split at h
    · cases h
    · rename_i d hd
      obtain ⟨d0, d1⟩ := hraw_le c.toNat_lt hd
      split at h
      · cases h
      · split at h
        · cases h
        · exact pu_bound r _ n (by omega) (by omega) h

/-- What a text is as a number. -/
def IsNum (s : ByteArray) (v : Value) : Prop :=
  (∃ x, x < 18446744073709551616 ∧ plainW x = x ∧ s = hexS x ∧ v = .tuple #[.float .f64 x, .bool true]) ∨ ((∀ x, x < 18446744073709551616 → plainW x = x → s ≠ hexS x) ∧ v = .tuple #[.float .f64 0, .bool false])

theorem parse_ok {s : ByteArray} (hs : s.size ≤ 140737488351232) {H : Heap} (hT : T64 H) (hE : ErrH H) : Does Tryd.prog 10 [.string s] H fun v H' => IsNum s v ∧ Ext [] H H' := by
  refine Fn_of_vc Tryd.mixed (ParseV _ _ _) ?_
  refine Does.mono (R := fun v H' => ((∃ n : Int, puT s = .ok n ∧ v = .tuple #[.int .u64 n, .nilIface]) ∨ ((∀ n, puT s ≠ .ok n) ∧ ∃ (n : Int) (t : _) (u : _), v = .tuple #[.int .u64 n, .iface t u])) ∧ Ext [] H H') ?_ ?_
  · refine Fn_of_vc Tryd.mixed (PuaV _ _ _) ?_
    refine (pu_ok _ (by unfold maxLen; omega) H).mono ?_
    rintro _ H2 ⟨rfl, hx2⟩
    cases hp : puT s with
    | ok n => exact ⟨_, _, rfl, .inl rfl, fun h => absurd rfl h, fun _ => ⟨.inl ⟨n, rfl, rfl⟩, hx2⟩⟩
    | syn =>
      refine ⟨_, _, rfl, .inr ⟨_, _, rfl⟩, fun _ => (toErrSyn_ok _ hs (hE.ext hx2)).mono ?_, fun h => absurd (by simp) h⟩
      rintro _ H6 ⟨⟨t, u, rfl⟩, hx6⟩
      exact ⟨_, rfl, .inr ⟨fun n h => (by cases h), _, _, _, rfl⟩, hx2.trans hx6⟩
    | rng =>
      refine ⟨_, _, rfl, .inr ⟨_, _, rfl⟩, fun _ => (toErrRng_ok _ hs (hE.ext hx2)).mono ?_, fun h => absurd (by simp) h⟩
      rintro _ H6 ⟨⟨t, u, rfl⟩, hx6⟩
      exact ⟨_, rfl, .inr ⟨fun n h => (by cases h), _, _, _, rfl⟩, hx2.trans hx6⟩
  · rintro _ H2 ⟨h, hx2⟩
    rcases h with ⟨n, hp, rfl⟩ | ⟨hp, n, t, u, rfl⟩
    · obtain ⟨k, rfl⟩ : ∃ k : Nat, n = k := by
        have := (pu_bound s.data.toList 0 n (by decide) (by decide) (by unfold puT at hp; split at hp; cases hp; exact hp)).1
        exact ⟨n.toNat, by omega⟩
      have hk : k < 18446744073709551616 := by
        have := (pu_bound s.data.toList 0 k (by decide) (by decide) (by unfold puT at hp; split at hp; cases hp; exact hp)).2
        omega
      refine ⟨_, _, rfl, .inl rfl, fun h => absurd rfl h, fun _ => (text_ok (w := Int.toNat ((k : Nat) : Int)) (by omega) (hT.ext hx2)).mono ?_⟩
      rintro _ H6 ⟨rfl, hx6⟩
      rw [Int.toNat_natCast]
      refine ⟨_, rfl, fun e => ⟨.inr ⟨fun x hx hpl hxs => ?_, rfl⟩, hx2.trans hx6⟩, fun e => ⟨.inl ?_, hx2.trans hx6⟩⟩
      · rw [hxs, puT_hex hx] at hp
        simp only [PR.ok.injEq] at hp
        have : x = k := by omega
        subst this
        exact e (by rw [hpl, hxs])
      · have e' := Classical.not_not.1 e
        rw [← e', puT_hex (plain_lt hk)] at hp
        simp only [PR.ok.injEq] at hp
        have hpk : plainW k = k := by omega
        exact ⟨k, hk, hpk, by rw [← e', hpk], rfl⟩
    · refine ⟨_, _, rfl, .inr ⟨_, _, rfl⟩, fun _ => ⟨.inr ⟨fun x hx hpl hxs => ?_, rfl⟩, hx2⟩, fun h => absurd (by simp) h⟩
      exact hp x (by rw [hxs, puT_hex hx])

/-! ### The document's -/
theorem hexL_snoc {a d : Nat} (hd : d < 16) : ∀ j, hexL (a * 16 + d) (j + 1) = hexL a j ++ [UInt8.ofNat (digN d)]
  | 0 => by
    simp only [hexL, hexd, Nat.pow_zero, Nat.div_one, List.nil_append]
    rw [show (a * 16 + d) % 16 = d by omega]
  | j + 1 => by
    have ih := hexL_snoc (a := a) hd j
    show hexd (a * 16 + d) (j + 1) :: hexL (a * 16 + d) (j + 1) = hexd a j :: hexL a j ++ [_]
    rw [ih]
    have : hexd (a * 16 + d) (j + 1) = hexd a j := by
      unfold hexd
      rw [Nat.pow_succ, Nat.mul_comm (16 ^ j) 16, ← Nat.div_div_eq_div_mul, show (a * 16 + d) / 16 = a by omega]
    rw [this]; rfl

theorem dig_cut : ∀ k, k < 16 → (ByteArray.mk #[48, 49, 50, 51, 52, 53, 54, 55, 56, 57, 97, 98, 99, 100, 101, 102]).extract k (k + 1) = ⟨#[UInt8.ofNat (digN k)]⟩ := by decide

theorem wrap_i64n (n : Nat) (h : n < 16) : IntKind.wrap .i64 (n : Int) = n := by
  match n, h with
  | 0, _ | 1, _ | 2, _ | 3, _ | 4, _ | 5, _ | 6, _ | 7, _ | 8, _ | 9, _ | 10, _ | 11, _ | 12, _ | 13, _ | 14, _ | 15, _ => decide
  | n + 16, h => omega

theorem rtext_ok {w : Nat} (hw : w < 18446744073709551616) (H : Heap) : Does Tryd.prog 7 [.float .f64 w] H fun v H' => v = .string (hexS (plainW w)) ∧ Ext [] H H' := by
  refine Fn_of_vc Tryd.mixed (RTextV _ _ _) ?_
  refine (bits_ok hw H).mono ?_
  rintro _ _ ⟨rfl, rfl⟩
  have hx := plain_lt hw
  generalize plainW w = x at *
  have hsz : ∀ y m, (ByteArray.mk (hexL y m).toArray).size = m := fun y m => by
    show (hexL y m).toArray.size = m
    simp [hexL_length]
  refine ⟨_, rfl, fun s i H' => H' = H ∧ ∃ j : Nat, j ≤ 16 ∧ i = 60 - 4 * (j : Int) ∧ s = ⟨(hexL (x / 16 ^ (16 - j)) j).toArray⟩, fun _ i _ => (i + 4).toNat, ⟨rfl, 0, by decide, rfl, rfl⟩, ?_⟩
  rintro _ _ H' ⟨e, j, hj, rfl, rfl⟩
  obtain rfl : H = H' := e.symm
  refine ⟨fun h0 => ?_, fun h0 => ⟨?_, Ext.refl _ _⟩⟩
  · rintro q9 rfl
    rw [wrap_u64, show (60 - 4 * (j : Int)) % 18446744073709551616 = 60 - 4 * (j : Int) by omega]
    refine ⟨by omega, ?_⟩
    rintro q10 rfl
    have ef : Int.fdiv (x : Int) (2 ^ (min (Int.toNat (60 - 4 * (j : Int))) (IntKind.bits .u64))) = ((x / 16 ^ (15 - j) : Nat) : Int) := by
      have h1 : min (Int.toNat (60 - 4 * (j : Int))) (IntKind.bits .u64) = 4 * (15 - j) := by
        show min _ 64 = _
        omega
      have hpos : (0 : Int) ≤ 2 ^ (4 * (15 - j)) := Int.pow_nonneg (by decide)
      have hp2 : ((2 : Int) ^ (4 * (15 - j))) = (((16 : Nat) ^ (15 - j) : Nat) : Int) := by
        rw [show (16 : Nat) = 2 ^ 4 from rfl, ← Nat.pow_mul]; simp
      rw [h1, Int.fdiv_eq_ediv_of_nonneg _ hpos, hp2]
      exact (Int.natCast_ediv _ _).symm
    rw [ef]
    have hlt : x / 16 ^ (15 - j) < 18446744073709551616 := Nat.lt_of_le_of_lt (Nat.div_le_self _ _) hx
    rintro q11 rfl q12 rfl
    rw [and15 _ hlt]
    have hd : x / 16 ^ (15 - j) % 16 < 16 := Nat.mod_lt _ (by decide)
    have hstep : x / 16 ^ (16 - j) * 16 + x / 16 ^ (15 - j) % 16 = x / 16 ^ (15 - j) := by
      have : x / 16 ^ (16 - j) = x / 16 ^ (15 - j) / 16 := by
        rw [Nat.div_div_eq_div_mul, ← Nat.pow_succ]
        congr 2; omega
      rw [this]; omega
    have hsn := hexL_snoc (a := x / 16 ^ (16 - j)) hd j
    rw [hstep] at hsn
    generalize hdd : x / 16 ^ (15 - j) % 16 = d at *
    rw [wrap_i64n d hd]
    have hcat : (ByteArray.mk (hexL (x / 16 ^ (16 - j)) j).toArray) ++ (ByteArray.mk #[48, 49, 50, 51, 52, 53, 54, 55, 56, 57, 97, 98, 99, 100, 101, 102]).extract (Int.toNat (d : Int)) (Int.toNat ((d : Int) + 1)) = ⟨(hexL (x / 16 ^ (15 - j)) (j + 1)).toArray⟩ := by
      rw [show Int.toNat (d : Int) = d by omega, show Int.toNat ((d : Int) + 1) = d + 1 by omega, dig_cut d hd, hsn]
      apply ByteArray.ext
      rw [ByteArray.data_append]
      apply Array.ext'
      simp
    rw [hcat]
    refine ⟨⟨by omega, by omega⟩, by omega, by omega, by show (d : Int) + 1 ≤ 16; omega, ⟨?_, ?_⟩, ⟨by omega, by omega⟩, ⟨rfl, j + 1, by omega, by omega, ?_⟩, ?_⟩
    · omega
    · rw [show Int.toNat (d : Int) = d by omega, show Int.toNat ((d : Int) + 1) = d + 1 by omega, dig_cut d hd, hsz]
      show ((j + 1 : Nat) : Int) ≤ _
      omega
    · rw [show 16 - (j + 1) = 15 - j by omega]
    · show (60 - 4 * (j : Int) - 4 + 4).toNat < (60 - 4 * (j : Int) + 4).toNat
      omega
  · have : j = 16 := by omega
    subst this
    rw [show 16 - 16 = 0 by rfl, Nat.pow_zero, Nat.div_one]
    rfl

theorem hexd_low (x m : Nat) : (48 ≤ ((hexd x m).toNat : Int) ∧ ((hexd x m).toNat : Int) ≤ 57) ∨ (97 ≤ ((hexd x m).toNat : Int) ∧ ((hexd x m).toNat : Int) ≤ 102) := by
  rw [hexd_nat]
  have : x / 16 ^ m % 16 < 16 := Nat.mod_lt _ (by decide)
  unfold digN
  split <;> omega

theorem hexL_get (x : Nat) : ∀ (m j : Nat), j < m → (hexL x m)[j]? = some (hexd x (m - 1 - j))
  | 0, _, h => absurd h (by omega)
  | m + 1, 0, _ => by simp [hexL]
  | m + 1, j + 1, h => by
    have := hexL_get x m j (by omega)
    simp only [hexL, List.getElem?_cons_succ, this]
    congr 2; omega

theorem ofNat_toNat (c : UInt8) {d : Nat} (h : c.toNat = digN d) : c = UInt8.ofNat (digN d) := by
  rw [← h]; simp

theorem rparse_ok (s : ByteArray) (H : Heap) : Does Tryd.prog 11 [.string s] H fun v H' => IsNum s v ∧ Ext [] H H' := by
  refine Fn_of_vc Tryd.mixed (RParseV _ _ _) ?_
  refine ⟨fun e => ⟨.inr ⟨fun x hx hp h => e (by rw [h, hexS_size]; rfl), rfl⟩, Ext.refl _ _⟩, fun e => ?_⟩
  have hsz : s.size = 16 := by omega
  have hl : s.data.toList.length = 16 := by rw [Array.length_toList]; exact hsz
  refine ⟨fun n H' => H' = H ∧ ∃ k : Nat, n = k ∧ k < 18446744073709551616 ∧ s = hexS k, ?_, ?_⟩
  · refine ⟨fun n i H' => H' = H ∧ ∃ k j : Nat, n = k ∧ i = j ∧ j ≤ 16 ∧ k < 16 ^ j ∧ s.data.toList.take j = hexL k j, fun _ i _ => (16 - i).toNat, ⟨rfl, 0, 0, rfl, rfl, by decide, by decide, rfl⟩, ?_⟩
    rintro _ _ H' ⟨eH, k, j, rfl, rfl, hj, hk, ht⟩
    obtain rfl : H = H' := eH.symm
    have k16 : (16 : Nat) ^ 16 = 18446744073709551616 := by decide
    refine ⟨fun hlt => ⟨by omega, by omega, ?_⟩, fun hlt => ⟨rfl, k, rfl, ?_, ?_⟩⟩
    · rintro q7 rfl
      rw [Int.toNat_natCast]
      have hget : s.data.toList[j]? = some (s.data.toList.getD j 0) := by
        rw [List.getD_eq_getElem?_getD, List.getElem?_eq_getElem (by omega)]; rfl
      generalize hc : s.data.toList.getD j 0 = c at *
      have hc8 : c.toNat < 256 := c.toNat_lt
      have hk15 : k < 1152921504606846976 := by
        have : 16 ^ j ≤ 16 ^ 15 := Nat.pow_le_pow_right (by decide) (by omega)
        rw [show (16 : Nat) ^ 15 = 1152921504606846976 by decide] at this
        omega
      have hsh : IntKind.wrap .u64 ((k : Int) * 2 ^ (min (Int.toNat 4) (IntKind.bits .u64))) = (k : Int) * 16 := by
        show IntKind.wrap .u64 ((k : Int) * 16) = _
        rw [wrap_u64]; omega
      have bad : ¬ ((48 ≤ (c.toNat : Int) ∧ (c.toNat : Int) ≤ 57) ∨ (97 ≤ (c.toNat : Int) ∧ (c.toNat : Int) ≤ 102)) → IsNum s (.tuple #[.float .f64 0, .bool false]) := by
        intro h
        refine .inr ⟨fun x hx hp hxs => h ?_, rfl⟩
        have h1 : s.data.toList = hexL x 16 := by rw [hxs]; simp [hexS]
        rw [h1, hexL_get x 16 j (by omega)] at hget
        simp only [Option.some.injEq] at hget
        rw [← hget]
        exact hexd_low _ _
      have good : ∀ d : Nat, d < 16 → c.toNat = digN d → (∃ k' j' : Nat, (k : Int) * 16 + d = k' ∧ (j : Int) + 1 = j' ∧ j' ≤ 16 ∧ k' < 16 ^ j' ∧ s.data.toList.take j' = hexL k' j') := by
        intro d hd hcd
        refine ⟨k * 16 + d, j + 1, by omega, by omega, by omega, by rw [Nat.pow_succ]; omega, ?_⟩
        rw [List.take_add_one, ht, hget, hexL_snoc hd, ofNat_toNat c hcd]
        rfl
      have m1 : (16 - ((j : Int) + 1)).toNat < (16 - (j : Int)).toNat := by omega
      have letter : ∀ (hn : ¬ (48 ≤ (c.toNat : Int) ∧ (c.toNat : Int) ≤ 57)), 97 ≤ (c.toNat : Int) → (c.toNat : Int) ≤ 102 →
          IntKind.wrap .u64 (IntKind.wrap .u64 (IntKind.wrap .u64 ((k : Int) * 2 ^ (min (Int.toNat 4) (IntKind.bits .u64))) + IntKind.wrap .u64 (IntKind.wrap .u8 ((c.toNat : Int) - 97))) + 10) = (k : Int) * 16 + ((c.toNat - 87 : Nat) : Int) ∧ c.toNat = digN (c.toNat - 87) ∧ c.toNat - 87 < 16 := by
        intro hn h1 h2
        refine ⟨?_, ?_, by omega⟩
        · rw [hsh, wrap_u8, wrap_u64, wrap_u64, wrap_u64]; omega
        · unfold digN; rw [if_neg (by omega)]; omega
      refine ⟨fun h1 => ⟨fun h2 => ⟨by decide, ?_⟩, fun h2 => ⟨fun h3 => ⟨fun h4 => ⟨by decide, ?_⟩, fun h4 => ⟨bad (by omega), Ext.refl _ _⟩⟩, fun h3 => ⟨bad (by omega), Ext.refl _ _⟩⟩⟩, fun h1 => ⟨fun h3 => ⟨fun h4 => ⟨by decide, ?_⟩, fun h4 => ⟨bad (by omega), Ext.refl _ _⟩⟩, fun h3 => ⟨bad (by omega), Ext.refl _ _⟩⟩⟩
      · rintro q8 rfl q9 rfl q10 rfl q11 rfl
        have e1 : IntKind.wrap .u64 (IntKind.wrap .u64 ((k : Int) * 2 ^ (min (Int.toNat 4) (IntKind.bits .u64))) + IntKind.wrap .u64 (IntKind.wrap .u8 ((c.toNat : Int) - 48))) = (k : Int) * 16 + ((c.toNat - 48 : Nat) : Int) := by
          rw [hsh, wrap_u8, wrap_u64, wrap_u64]; omega
        rw [e1]
        exact ⟨⟨by omega, by omega⟩, ⟨rfl, good _ (by omega) (by unfold digN; rw [if_pos (by omega)]; omega)⟩, m1⟩
      · rintro q12 rfl q13 rfl q14 rfl q15 rfl q16 rfl
        obtain ⟨e1, e2, e3⟩ := letter (by omega) h3 h4
        rw [e1]
        exact ⟨⟨by omega, by omega⟩, ⟨rfl, good _ e3 e2⟩, m1⟩
      · rintro q12 rfl q13 rfl q14 rfl q15 rfl q16 rfl
        obtain ⟨e1, e2, e3⟩ := letter (by omega) h3 h4
        rw [e1]
        exact ⟨⟨by omega, by omega⟩, ⟨rfl, good _ e3 e2⟩, m1⟩
    · have : j = 16 := by omega
      subst this
      rw [k16] at hk
      exact hk
    · have : j = 16 := by omega
      subst this
      rw [List.take_of_length_le (by omega)] at ht
      apply ByteArray.ext
      apply Array.ext'
      rw [ht]
      simp [hexS]
  · rintro _ H' ⟨eH, k, rfl, hk, hs⟩
    obtain rfl : H = H' := eH.symm
    rw [Int.toNat_natCast]
    refine (bits_ok hk H).mono ?_
    rintro _ _ ⟨rfl, rfl⟩
    refine ⟨_, rfl, fun e => ⟨.inr ⟨fun x hx hp hxs => e ?_, rfl⟩, Ext.refl _ _⟩, fun e => ⟨.inl ⟨k, hk, by omega, hs, rfl⟩, Ext.refl _ _⟩⟩
    rw [hs, hexS_inj hk hx] at hxs
    subst hxs
    rw [hp]
end Go.Proofs
end

section
open Go Go.Vc
namespace Go.Proofs

theorem isNum_unique {s : ByteArray} {v u : Value} (h : IsNum s v) (k : IsNum s u) : v = u := by
  rcases h with ⟨x, hx, _, hs, rfl⟩ | ⟨hn, rfl⟩ <;> rcases k with ⟨y, hy, hp, hs', rfl⟩ | ⟨hn', rfl⟩
  · rw [hs, hexS_inj hx hy] at hs'
    rw [hs']
  · exact absurd hs (hn' x hx ‹_›)
  · exact absurd hs' (hn y hy hp)
  · rfl

theorem isNum_shape {s : ByteArray} {v : Value} (h : IsNum s v) : ∃ (x : Nat) (b : Bool), v = .tuple #[.float .f64 x, .bool b] := by
  rcases h with ⟨x, _, _, _, rfl⟩ | ⟨_, rfl⟩
  · exact ⟨x, true, rfl⟩
  · exact ⟨0, false, rfl⟩

theorem texts_law (H : Heap) (hT : T64 H) (hE : ErrH H) (n0 : Int) (_ : (Lit.int .i64 n0).wf = true) (x : Nat) (wx : (Lit.float .f64 x).wf = true) (raw : ByteArray) (hr : raw.size ≤ 140737488351232) (how : Int) (_ : (Lit.int .i64 how).wf = true) (at_ : Int) (_ : (Lit.int .i64 at_).wf = true) (c : Int) (wc : (Lit.int .u8 c).wf = true) :
    Does Tryd.prog 3 [.int .i64 n0, .float .f64 x, .string raw, .int .i64 how, .int .i64 at_, .int .u8 c] H fun v H' => v = .bool true ∧ Ext [] H H' := by
  have hx : x < 18446744073709551616 := by simpa [Lit.wf] using wx
  refine Fn_of_vc Tryd.mixed (TextsV _ _ _ _ _ _ _ _) ?_
  refine (time_ok n0 hx H).mono ?_
  rintro _ H2 ⟨p, rfl, hp, hx2⟩
  refine ⟨_, rfl, (rtext_ok hp H2).mono ?_⟩
  rintro _ H5 ⟨rfl, hx5⟩
  refine ⟨_, rfl, (text_ok hp ((hT.ext hx2).ext hx5)).mono ?_⟩
  rintro _ H8 ⟨rfl, hx8⟩
  have hX8 := (hx2.trans hx5).trans hx8
  have hsz := hexS_size (plainW p)
  generalize hexS (plainW p) = t at *
  refine ⟨_, rfl, fun e => absurd rfl e, fun _ => ?_⟩
  have hex : ∀ i j, (t.extract i j).size ≤ 16 := fun i j => by rw [ByteArray.size_extract]; omega
  refine ⟨fun _ s H' => s.size ≤ 140737488351232 ∧ Ext [] H H', (pick_ok how 4 H8 (by decide) (by decide)).mono ?_, ?_⟩
  · rintro _ _ ⟨rfl, rfl⟩
    refine ⟨_, rfl, fun _ => ⟨hr, hX8⟩, fun _ => ⟨fun _ => (pick_ok at_ 16 H8 (by decide) (by decide)).mono ?_, fun _ => ⟨fun _ => (pick_ok at_ 16 H8 (by decide) (by decide)).mono ?_, fun _ => ⟨by omega, hX8⟩⟩⟩⟩
    · rintro _ _ ⟨rfl, rfl⟩
      have k0 := Int.emod_nonneg at_ (show (16 : Int) ≠ 0 by decide)
      have k1 := Int.emod_lt_of_pos at_ (show (0 : Int) < 16 by decide)
      refine ⟨_, rfl, k0, by omega, ⟨by omega, by omega⟩, by omega, by omega, fun b H18 hn => ⟨[UInt8.ofNat c.toNat], ?_, ?_, ?_, ?_, hX8.trans hn.ext⟩⟩
      · have hc : (UInt8.ofNat c.toNat).toNat = c.toNat ∧ 0 ≤ c := by
          have : (0 : Int) ≤ c ∧ c ≤ 255 := by simpa [Lit.wf, IntKind.min, IntKind.max, IntKind.bits, IntKind.signed] using wc
          have h2 : c.toNat < 256 := by omega
          constructor
          · simp; omega
          · exact this.1
        refine ⟨rfl, .inr rfl, fun j u hj => ?_⟩
        rcases j with _ | j
        · simp only [List.map_cons, List.getElem?_cons_zero, Option.some.injEq] at hj
          rw [← hj]
          show hcell H18 b (0 + 0) = _
          rw [hn.blk.cell, hc.1]
          have := hc.2
          simp
          omega
        · simp at hj
      · have := hex 0 (at_ % 16).toNat
        refine ⟨by omega, ?_⟩
        show (((t.extract 0 (at_ % 16).toNat).size + 1 : Nat) : Int) ≤ _
        omega
      · have h1 := hex 0 (at_ % 16).toNat
        have h2 := hex (at_ % 16 + 1).toNat t.size
        rw [ByteArray.size_append]
        refine ⟨by omega, ?_⟩
        show (((t.extract 0 (at_ % 16).toNat).size + 1 + (t.extract (at_ % 16 + 1).toNat t.size).size : Nat) : Int) ≤ _
        omega
      · have h1 := hex 0 (at_ % 16).toNat
        have h2 := hex (at_ % 16 + 1).toNat t.size
        rw [ByteArray.size_append, ByteArray.size_append]
        show (t.extract 0 (at_ % 16).toNat).size + 1 + (t.extract (at_ % 16 + 1).toNat t.size).size ≤ _
        omega
    · rintro _ _ ⟨rfl, rfl⟩
      have k0 := Int.emod_nonneg at_ (show (16 : Int) ≠ 0 by decide)
      have k1 := Int.emod_lt_of_pos at_ (show (0 : Int) < 16 by decide)
      refine ⟨_, rfl, k0, by omega, by decide, ?_⟩
      rintro q23 rfl
      refine ⟨⟨by omega, by omega⟩, by omega, by omega, (pick_ok _ 6 H8 (by decide) (by decide)).mono ?_⟩
      rintro _ _ ⟨rfl, rfl⟩
      generalize IntKind.wrap .i64 (Int.tdiv at_ 16) = q at *
      have q0 := Int.emod_nonneg q (show (6 : Int) ≠ 0 by decide)
      have q1 := Int.emod_lt_of_pos q (show (0 : Int) < 6 by decide)
      refine ⟨_, rfl, q0, by omega, by omega, ?_⟩
      intro s27 hs27
      have hs1 : s27.size ≤ 1 := by
        rw [hs27]
        generalize (q % 6).toNat = j
        match j with
        | 0 | 1 | 2 | 3 | 4 | 5 => decide
        | j + 6 => exact Nat.zero_le _
      have h1 := hex 0 (at_ % 16).toNat
      have h2 := hex (at_ % 16 + 1).toNat t.size
      refine ⟨⟨by omega, by omega⟩, ?_, ?_, hX8⟩
      · rw [ByteArray.size_append]; exact ⟨by omega, by omega⟩
      · rw [ByteArray.size_append, ByteArray.size_append]; omega
  · rintro _ s H30 ⟨hs, hX30⟩
    refine (parse_ok hs (hT.ext hX30) (hE.ext hX30)).mono ?_
    rintro v H32 ⟨h1, hx32⟩
    obtain ⟨x1, b1, rfl⟩ := isNum_shape h1
    refine ⟨_, _, rfl, (rparse_ok s H32).mono ?_⟩
    rintro u H36 ⟨h2, hx36⟩
    obtain rfl := isNum_unique h1 h2
    refine ⟨_, _, rfl, (known2_ok H36).mono ?_⟩
    rintro _ H40 ⟨rfl, hx40⟩
    exact ⟨_, rfl, fun _ => ⟨fun _ => ⟨yes rfl, ((hX30.trans hx32).trans hx36).trans hx40⟩, fun e => absurd Iff.rfl e⟩, fun e => (by cases e)⟩
end Go.Proofs
end

namespace Go.Proofs.YtppjhnepmolboaaDoor
open Go.ChangeShapes Go.WideShapes Go.ChangeAt Go.RowKit

theorem star : "*" ++ "errors.errorString" = "*errors.errorString" := by decide
theorem row85 (u : TypeId) (h : Tryd.prog.typeName? 3 u = some "*errors.errorString") : u = 85 :=
  typeName_ptr_named (nm := "errors.errorString") (by rw [star]; kernel_rfl) (by kernel_rfl) (by decide) u (by rw [star]; exact h)
theorem gSyn : Tryd.prog.globalNamed "strconv.ErrSyntax" = some 2 := by kernel_rfl
theorem gRng : Tryd.prog.globalNamed "strconv.ErrRange" = some 3 := by kernel_rfl
theorem gSynType : (Tryd.prog.globals[2]?).map (·.type) = some 48 := by kernel_rfl
theorem gRngType : (Tryd.prog.globals[3]?).map (·.type) = some 48 := by kernel_rfl
theorem cells87 : Tryd.prog.cellsOf 87 = 1 := by kernel_rfl
theorem cells9 : Tryd.prog.cellsOf 9 = 1 := by kernel_rfl

theorem errs {W : World} (h : laidMet Tryd.prog theLaid W) : ErrH W.heap := by
  have h3 := laid_tail (laid_tail (laid_tail h))
  obtain ⟨a0, s0, hv0, -, -, -⟩ := laid_sentinel h3 gRng gRngType Tryd.underlying48 row85 Tryd.underlying85 Tryd.underlying87 rfl rfl Tryd.underlying9 cells87 cells9
  obtain ⟨a1, s1, hv1, -, -, -⟩ := laid_sentinel (laid_tail h3) gSyn gSynType Tryd.underlying48 row85 Tryd.underlying85 Tryd.underlying87 rfl rfl Tryd.underlying9 cells87 cells9
  have c0 := World.var?_cell gRng hv0 0
  have c1 := World.var?_cell gSyn hv1 0
  rw [Go.Vc.cell_hcell] at c0 c1
  exact ⟨⟨_, _, by simpa using c1⟩, ⟨_, _, by simpa using c0⟩⟩
end Go.Proofs.YtppjhnepmolboaaDoor

namespace Go.Proofs.YtppjhnepmolboaaDoor.numTexts
open Go.ChangeShapes Go.WideShapes Go.ChangeAt Go.RowKit
open Go.ChangeMaps (open_string shut_string)
set_option linter.unusedVariables false

theorem contract (H : Type) (enc : TypeId × Value → H) (W : World) (base : Nat) (args : Array Value) (ds gs : List (DataW H)) (before : List MemPlace)
    (hval0 : ∀ (j : Nat) t v, Tryd.f3.params[j]? = some t → args[j]? = some v → Value.okWide Tryd.prog W .any base t v)
    (hW : DataW.Whole enc Tryd.prog Tryd.f3.params.toList Rows.numTextsSpec.vars false W args.toList ds gs before) (hL : laidMetH Tryd.prog Rows.numTextsRow.laid W)
    (hz : (DataW.weightsEach Tryd.prog (Tryd.f3.params.toList ++ (OpenSpec.ofChange Rows.numTextsSpec).bare.plain.varTypes Tryd.prog) (ds ++ gs)).all (· ≤ reachBytes) = true) :
    Calls Tryd.prog 3 args W fun e W' => ∃ v, e = .returned v ∧ Rows.numTextsSpec.post enc Tryd.prog Tryd.f3 false true false false W args v W' := by
  have hval : ∀ (j : Nat) t v, Tryd.f3.params[j]? = some t → args[j]? = some v → Value.okWide Tryd.prog W .any base t v := hval0
  have hL' : laidMet Tryd.prog theLaid W := hL
  have hW' := hW
  obtain ⟨p, q, hA0, hV, rfl, hfz, hnd⟩ := hW
  have hA : DataW.TrodAll enc Tryd.prog W 0 (fun _ => true) true Tryd.f3.params.toList args.toList ds p := hA0
  rw [Tryd.params3] at hA hval
  obtain ⟨v0, vs0, d0, ds0, p0, q0, hargs, rfl, rfl, h0, r0⟩ := trodAll_cons hA
  obtain ⟨v1, vs1, d1, ds1, p1, q1, rfl, rfl, rfl, h1, r1⟩ := trodAll_cons r0
  obtain ⟨v2, vs2, d2, ds2, p2, q2, rfl, rfl, rfl, h2, r2⟩ := trodAll_cons r1
  obtain ⟨v3, vs3, d3, ds3, p3, q3, rfl, rfl, rfl, h3, r3⟩ := trodAll_cons r2
  obtain ⟨v4, vs4, d4, ds4, p4, q4, rfl, rfl, rfl, h4, r4⟩ := trodAll_cons r3
  obtain ⟨v5, vs5, d5, ds5, p5, q5, rfl, rfl, rfl, h5, r5⟩ := trodAll_cons r4
  obtain ⟨rfl, rfl, rfl⟩ := trodAll_nil r5
  obtain rfl : args = #[v0, v1, v2, v3, v4, v5] := by cases args; simp_all
  obtain ⟨rfl, rfl⟩ := trodVars_none hV
  obtain ⟨a0, rfl, rfl, rfl, w0⟩ := open_int Tryd.underlying3 (hval 0 3 v0 rfl rfl) h0
  obtain ⟨a1, rfl, rfl, rfl, w1⟩ := open_float Tryd.underlying22 (hval 1 22 v1 rfl rfl) h1
  obtain ⟨a2, rfl, rfl, rfl, w2⟩ := open_string Tryd.underlying9 (hval 2 9 v2 rfl rfl) h2
  obtain ⟨a3, rfl, rfl, rfl, w3⟩ := open_int Tryd.underlying3 (hval 3 3 v3 rfl rfl) h3
  obtain ⟨a4, rfl, rfl, rfl, w4⟩ := open_int Tryd.underlying3 (hval 4 3 v4 rfl rfl) h4
  obtain ⟨a5, rfl, rfl, rfl, w5⟩ := open_int Tryd.underlying5 (hval 5 5 v5 rfl rfl) h5
  have b2 : a2.size ≤ 140737488351232 := by
    rw [Tryd.params3] at hz
    simp [DataW.weightsEach, DataW.weights, reachBytes] at hz
    exact of_decide_eq_true hz
  clear hA0 hval0
  refine (Go.Vc.Does.below (Go.Proofs.texts_law W.heap (t64 hL') (errs hL') a0 w0 a1 w1 a2 b2 a3 w3 a4 w4 a5 w5)).mono fun e W' ⟨he, bel⟩ => ?_
  subst he
  exact ⟨_, rfl, _, _, _, [], _, [], hW', trodAll_mk1 (shut_bool Tryd.underlying4 _), (trodAll_cons_mk (shut_int Tryd.underlying3 w0) (trodAll_cons_mk (shut_float Tryd.underlying22 w1) (trodAll_cons_mk (shut_string Tryd.underlying9 w2) (trodAll_cons_mk (shut_int Tryd.underlying3 w3) (trodAll_cons_mk (shut_int Tryd.underlying3 w4) (trodAll_cons_mk (shut_int Tryd.underlying5 w5) trodAll_mk0)))))), rfl, bel.frame _, fun h => by cases h⟩

theorem reads (os : Os) {H : Type} (enc : TypeId × Value → H) : ∃ places, DataW.whole enc Tryd.prog ((laidWorld os).forCall (fun _ _ => 0) ⟨#[], #[.int .i64 0, .float .f64 0, .string ⟨#[]⟩, .int .i64 0, .int .i64 0, .int .u8 0], []⟩).memory Tryd.f3.params.toList Rows.numTextsSpec.vars false (#[.int .i64 0, .float .f64 0, .string ⟨#[]⟩, .int .i64 0, .int .i64 0, .int .u8 0] : Array Value).toList 8 = some ([.lit (.int .i64 0), .lit (.float .f64 0), .lit (.string []), .lit (.int .i64 0), .lit (.int .i64 0), .lit (.int .u8 0)], [], places) :=
  ⟨[], by kernel_rfl⟩

set_option maxRecDepth 100000 in
theorem lifted (os : Os) (started : os.Started) (H : Type) (enc : TypeId × Value → H) (F : Stop.Interp) :
    ReturnsInHanded {} Tryd.checked os 3 .any ((OpenSpec.ofChange Rows.numTextsSpec).preRow enc Tryd.prog Tryd.f3 Rows.numTextsRow.domain false Rows.numTextsRow.laid) (((OpenSpec.ofChange Rows.numTextsSpec).at F).post enc Tryd.prog Tryd.f3 false true false false) := by
  obtain ⟨places, hx⟩ := reads os enc
  refine returnsInHanded_of_row (C := Tryd.checked) (s := OpenSpec.ofChange Rows.numTextsSpec) own started (by kernel_rfl) Tryd.func3
    (witness_row_at (enc := enc) (C := Tryd.checked) false (laidWorld os) #[.int .i64 0, .float .f64 0, .string ⟨#[]⟩, .int .i64 0, .int .i64 0, .int .u8 0] rfl (by kernel_rfl) (by kernel_rfl) (by kernel_rfl)
      (OpenSpec.preRow_of_cond 8 hx (by kernel_rfl) (fun k hk => by cases hk) (by kernel_rfl) (laid_met os _))) ?_
  intro W base args ds gs before hval hW _ _ hz hL _ _
  exact contract H enc W base args ds gs before hval hW hL hz

theorem said : Rows.NumTextsSaid :=
  OpenClaim.holds_of_cond 3 Tryd.f3 rfl rfl rfl rfl rfl rfl rfl ⟨rfl, rfl, rfl, rfl, rfl⟩ rfl rfl rfl rfl rfl (by kernel_rfl) Tryd.func3 (by kernel_rfl)
    (of_decide_eq_true (by kernel_rfl)) (by unfold Func.isWrapper; first | (rw [if_pos (by decide +kernel)]; kernel_rfl) | (rw [if_neg (by decide +kernel)]; exact ⟨rfl, rfl⟩))
    (fun os started H enc _ F => by rw [OpenClaim.pre_eq_preRow]; exact lifted os started H enc F)

theorem plain (f : FuncId) (fn : Func) (hf : Tryd.pinned.checked.prog.funcNamed "pentimento/pentimentolaw2.NumTexts" = some f) (hfn : Tryd.pinned.checked.prog.funcs[f]? = some fn) :
    true = Tryd.pinned.checked.prog.looks [] ∧ ∀ (j : Nat) t, fn.params[j]? = some t → Tryd.pinned.checked.prog.wantsStandIn t = false := by
  obtain rfl : f = 3 := Option.some.inj ((show Tryd.prog.funcNamed "pentimento/pentimentolaw2.NumTexts" = some 3 by kernel_rfl).symm.trans hf) |>.symm
  obtain rfl : fn = Tryd.f3 := (Option.some.inj (Tryd.func3.symm.trans hfn)).symm
  refine ⟨by kernel_rfl, fun j t ht => ?_⟩
  rw [Tryd.params3] at ht
  match j, ht with
  | 0, ht =>
    obtain rfl : t = 3 := by simpa using ht.symm
    exact (show Tryd.prog.wantsStandIn 3 = false by kernel_rfl)
  | 1, ht =>
    obtain rfl : t = 22 := by simpa using ht.symm
    exact (show Tryd.prog.wantsStandIn 22 = false by kernel_rfl)
  | 2, ht =>
    obtain rfl : t = 9 := by simpa using ht.symm
    exact (show Tryd.prog.wantsStandIn 9 = false by kernel_rfl)
  | 3, ht =>
    obtain rfl : t = 3 := by simpa using ht.symm
    exact (show Tryd.prog.wantsStandIn 3 = false by kernel_rfl)
  | 4, ht =>
    obtain rfl : t = 3 := by simpa using ht.symm
    exact (show Tryd.prog.wantsStandIn 3 = false by kernel_rfl)
  | 5, ht =>
    obtain rfl : t = 5 := by simpa using ht.symm
    exact (show Tryd.prog.wantsStandIn 5 = false by kernel_rfl)
  | j + 6, ht => exact absurd ht (by simp)

theorem proved : Rows.NumTextsCardSaid :=
  Claim7.holds_tied_plain_at .later [] _ _ _ _ said (fun _ h => by cases h) (by kernel_rfl) (fun _ h => by cases h) numTexts_row_tie rfl ⟨rfl, rfl⟩ (by kernel_rfl) rfl plain (by kernel_rfl)
#print axioms proved
end Go.Proofs.YtppjhnepmolboaaDoor.numTexts

