/- iface's list, writing: walked. Conditions: each thing of the list is written as its bytes, there is room. -/
import Derived.Test.YtmpbkfbjmmoapaaIL29
namespace Go.Proofs.Ytmpbkfbjmmoapaa
open Go.RowKit
set_option linter.unusedVariables false
set_option linter.unusedSimpArgs false
theorem flat_split {α : Type} (enc : α → List UInt8) {l : List α} {k : Nat} {x : α} (h : l[k]? = some x) : (l.take (k + 1)).flatMap enc = (l.take k).flatMap enc ++ enc x := by
  have hk := (List.getElem?_eq_some_iff.1 h).1
  have e := (List.getElem?_eq_some_iff.1 h).2
  rw [List.take_succ_eq_append_getElem hk, List.flatMap_append, e]
  simp
theorem flat_room {α : Type} (enc : α → List UInt8) {l : List α} {k : Nat} {x : α} (h : l[k]? = some x) : ((l.take k).flatMap enc).length + (enc x).length ≤ (l.flatMap enc).length := by
  have h1 : (l.take (k + 1)).flatMap enc ++ (l.drop (k + 1)).flatMap enc = l.flatMap enc := by rw [← List.flatMap_append, List.take_append_drop]
  rw [← h1, flat_split enc h]
  simp only [List.length_append]
  omega
theorem count_w (b n : Nat) (s : ByteArray) (bad : Bool) (hn : n ≤ 65535) (hroom : s.size + 2 ≤ maxLen) (w : World) (hb : Wlk w b s bad) :
    Calls Try.prog 73 #[.pointer (some ⟨b, 0, none⟩), .int .i64 (n : Int)] w fun e w' => e = .returned (.int .i64 (n : Int)) ∧ Wr [b] w w' ∧ Wlk w' b (addL s (numL n 2)) bad := by
  refine (count_any b n s bad hn hroom w hb).mono ?_
  rintro e w' ⟨h1, h2, h3⟩
  rw [bytesN_all] at h3
  exact ⟨h1, h2, h3⟩
theorem text_w (b : Nat) (p : Addr) (s t : ByteArray) (bad : Bool) (ht : t.size ≤ 255) (hroom : s.size + (textL t).length ≤ maxLen) (w : World) (hb : Wlk w b s bad) (ct : w.cell? p = some (.string t)) (hp : p.block ≠ b) :
    Calls Try.prog 44 #[.pointer (some ⟨b, 0, none⟩), .pointer (some p)] w (EncQ b s (textL t) bad w) := by
  have hl : (textL t).length = 1 + t.size := by
    unfold textL
    rw [List.length_append, numL_len]
    rfl
  refine (text_any_w b p s t bad ht (by omega) w hb ct hp).mono ?_
  rintro e w' ⟨h1, h2, h3⟩
  rw [textE_all] at h3
  exact ⟨h1, h2, h3⟩
set_option maxRecDepth 100000 in
set_option maxHeartbeats 4000000 in
theorem lw_Use {α : Type} (b q : Nat) (p : Addr) (s : ByteArray) (l : List α) (A : Option Addr) (c : Nat) (enc : α → List UInt8) (hn : l.length ≤ 65535) (hc1 : l.length ≤ c) (hc2 : c ≤ maxLen) (hroom : s.size + (numL l.length 2 ++ l.flatMap enc).length ≤ maxLen) (w : World) (hb : Wlk w b s false) (ct : w.cell? p = some (.slice A l.length c)) (hp : p.block ≠ b)
    (hE : ∀ k x, l[k]? = some x → ∃ gb off, A = some ⟨gb, off, none⟩ ∧ ∀ W s', Wr [b] w W → Wlk W b s' false → s'.size + (enc x).length ≤ maxLen → Calls Try.prog 46 #[.pointer (some ⟨gb, off + k * 2, none⟩), .pointer (some ⟨q, 0, none⟩)] W (EncQ b s' (enc x) false W)) :
    Calls Try.prog 45 #[.pointer (some ⟨b, 0, none⟩), .pointer (some p), .func (.func 46) #[] #[.pointer (some ⟨q, 0, none⟩)]] w (EncQ b s (numL l.length 2 ++ l.flatMap enc) false w) := by
  have hl2 : (numL l.length 2 ++ l.flatMap enc).length = 2 + (l.flatMap enc).length := by rw [List.length_append, numL_len]
  rw [hl2] at hroom
  have h := count_w b l.length s false hn (by omega) w hb
  unfold maxLen at hc2
  have H := Lib.hid h
  have HE := Lib.hid hE
  have CT := Lib.hid ct
  have HR := Lib.hid hroom
  clear hb h hE hl2 hroom
  go_enter Try.func45, Try.ntmps45
  go_wp2_with fail
  refine H.out.mono ?_
  rintro e w1 ⟨rfl, r1, b1⟩
  have c0 := b1.cell 0
  have c1 := b1.cell 1
  have c2 := b1.cell 2
  simp only [List.getElem?_toArray, List.getElem?_cons_zero, List.getElem?_cons_succ] at c0 c1 c2
  replace ct := r1.cellOf ct (by simp [hp])
  go_wp2_with fail
  go_loopw [46] (fun s46 wr => ∃ k : Nat, k ≤ l.length ∧ s46 = .int .i64 k ∧ Wr [b] w wr ∧ Wlk wr b (addL s (numL l.length 2 ++ (l.take k).flatMap enc)) false) (fun s46 _ => l.length - (intOf s46).toNat)
  case atStart => exact ⟨0, by omega, rfl, r1, by simpa using b1⟩
  case round =>
    obtain ⟨k, hk, rfl, rk, bk⟩ := hrel
    clear c0 c1 c2 ct
    have ct := rk.cellOf CT.out (by simp [hp])
    by_cases hlt : k < l.length
    · obtain ⟨x, hx⟩ : ∃ x, l[k]? = some x := ⟨_, List.getElem?_eq_getElem hlt⟩
      obtain ⟨gb, off, rfl, hcall⟩ := HE.out k x hx
      have hrm := flat_room enc hx
      have hc := hcall wr _ rk bk (by
        have := HR.out
        rw [addL_size, List.length_append, numL_len]
        omega)
      have HC := Lib.hid hc
      have RK := Lib.hid rk
      have HX := Lib.hid hx
      have hlti : (k : Int) < (l.length : Int) := by omega
      have hk0 : (0 : Int) ≤ (k : Int) := by omega
      clear hcall hc rk bk hx hrm
      go_wp2_with fail
      refine HC.out.mono ?_
      rintro e w2 ⟨rfl, r2, b2⟩
      have hb2 : Wlk w2 b (addL s (numL l.length 2 ++ (l.take (k + 1)).flatMap enc)) false := by
        rw [addL_add] at b2
        rw [flat_split enc HX.out, ← List.append_assoc]
        exact b2
      have HB2 := Lib.hid hb2
      have R2 := Lib.hid (RK.out.trans r2)
      clear b2 r2 hb2 ct
      go_wp2_with fail
      go_roundw
      case rel => exact ⟨k + 1, by omega, by go_num, R2.out, HB2.out⟩
      case measure => simp [intOf]; omega
    · obtain rfl : k = l.length := by omega
      have BK := Lib.hid bk
      clear bk
      go_wp2_with fail
      refine bodyPost_end (results_none Try.results45 _ _ _) rfl ?_
      have := BK.out
      rw [List.take_length] at this
      exact ⟨rfl, rk, this⟩
set_option maxRecDepth 100000 in
set_option maxHeartbeats 4000000 in
theorem lw_Type {α : Type} (b q : Nat) (p : Addr) (s : ByteArray) (l : List α) (A : Option Addr) (c : Nat) (enc : α → List UInt8) (hn : l.length ≤ 65535) (hc1 : l.length ≤ c) (hc2 : c ≤ maxLen) (hroom : s.size + (numL l.length 2 ++ l.flatMap enc).length ≤ maxLen) (w : World) (hb : Wlk w b s false) (ct : w.cell? p = some (.slice A l.length c)) (hp : p.block ≠ b)
    (hE : ∀ k x, l[k]? = some x → ∃ gb off, A = some ⟨gb, off, none⟩ ∧ ∀ W s', Wr [b] w W → Wlk W b s' false → s'.size + (enc x).length ≤ maxLen → Calls Try.prog 49 #[.pointer (some ⟨b, 0, none⟩), .pointer (some ⟨gb, off + k * 12, none⟩)] W (EncQ b s' (enc x) false W)) :
    Calls Try.prog 48 #[.pointer (some ⟨b, 0, none⟩), .pointer (some p), .func (.func 49) #[.pointer (some ⟨b, 0, none⟩)] #[]] w (EncQ b s (numL l.length 2 ++ l.flatMap enc) false w) := by
  have hl2 : (numL l.length 2 ++ l.flatMap enc).length = 2 + (l.flatMap enc).length := by rw [List.length_append, numL_len]
  rw [hl2] at hroom
  have h := count_w b l.length s false hn (by omega) w hb
  unfold maxLen at hc2
  have H := Lib.hid h
  have HE := Lib.hid hE
  have CT := Lib.hid ct
  have HR := Lib.hid hroom
  clear hb h hE hl2 hroom
  go_enter Try.func48, Try.ntmps48
  go_wp2_with fail
  refine H.out.mono ?_
  rintro e w1 ⟨rfl, r1, b1⟩
  have c0 := b1.cell 0
  have c1 := b1.cell 1
  have c2 := b1.cell 2
  simp only [List.getElem?_toArray, List.getElem?_cons_zero, List.getElem?_cons_succ] at c0 c1 c2
  replace ct := r1.cellOf ct (by simp [hp])
  go_wp2_with fail
  go_loopw [46] (fun s46 wr => ∃ k : Nat, k ≤ l.length ∧ s46 = .int .i64 k ∧ Wr [b] w wr ∧ Wlk wr b (addL s (numL l.length 2 ++ (l.take k).flatMap enc)) false) (fun s46 _ => l.length - (intOf s46).toNat)
  case atStart => exact ⟨0, by omega, rfl, r1, by simpa using b1⟩
  case round =>
    obtain ⟨k, hk, rfl, rk, bk⟩ := hrel
    clear c0 c1 c2 ct
    have ct := rk.cellOf CT.out (by simp [hp])
    by_cases hlt : k < l.length
    · obtain ⟨x, hx⟩ : ∃ x, l[k]? = some x := ⟨_, List.getElem?_eq_getElem hlt⟩
      obtain ⟨gb, off, rfl, hcall⟩ := HE.out k x hx
      have hrm := flat_room enc hx
      have hc := hcall wr _ rk bk (by
        have := HR.out
        rw [addL_size, List.length_append, numL_len]
        omega)
      have HC := Lib.hid hc
      have RK := Lib.hid rk
      have HX := Lib.hid hx
      have hlti : (k : Int) < (l.length : Int) := by omega
      have hk0 : (0 : Int) ≤ (k : Int) := by omega
      clear hcall hc rk bk hx hrm
      go_wp2_with fail
      refine HC.out.mono ?_
      rintro e w2 ⟨rfl, r2, b2⟩
      have hb2 : Wlk w2 b (addL s (numL l.length 2 ++ (l.take (k + 1)).flatMap enc)) false := by
        rw [addL_add] at b2
        rw [flat_split enc HX.out, ← List.append_assoc]
        exact b2
      have HB2 := Lib.hid hb2
      have R2 := Lib.hid (RK.out.trans r2)
      clear b2 r2 hb2 ct
      go_wp2_with fail
      go_roundw
      case rel => exact ⟨k + 1, by omega, by go_num, R2.out, HB2.out⟩
      case measure => simp [intOf]; omega
    · obtain rfl : k = l.length := by omega
      have BK := Lib.hid bk
      clear bk
      go_wp2_with fail
      refine bodyPost_end (results_none Try.results48 _ _ _) rfl ?_
      have := BK.out
      rw [List.take_length] at this
      exact ⟨rfl, rk, this⟩
set_option maxRecDepth 100000 in
set_option maxHeartbeats 4000000 in
theorem lw_Export {α : Type} (b q : Nat) (p : Addr) (s : ByteArray) (l : List α) (A : Option Addr) (c : Nat) (enc : α → List UInt8) (hn : l.length ≤ 65535) (hc1 : l.length ≤ c) (hc2 : c ≤ maxLen) (hroom : s.size + (numL l.length 2 ++ l.flatMap enc).length ≤ maxLen) (w : World) (hb : Wlk w b s false) (ct : w.cell? p = some (.slice A l.length c)) (hp : p.block ≠ b)
    (hE : ∀ k x, l[k]? = some x → ∃ gb off, A = some ⟨gb, off, none⟩ ∧ ∀ W s', Wr [b] w W → Wlk W b s' false → s'.size + (enc x).length ≤ maxLen → Calls Try.prog 51 #[.pointer (some ⟨gb, off + k * 5, none⟩), .pointer (some ⟨q, 0, none⟩)] W (EncQ b s' (enc x) false W)) :
    Calls Try.prog 50 #[.pointer (some ⟨b, 0, none⟩), .pointer (some p), .func (.func 51) #[] #[.pointer (some ⟨q, 0, none⟩)]] w (EncQ b s (numL l.length 2 ++ l.flatMap enc) false w) := by
  have hl2 : (numL l.length 2 ++ l.flatMap enc).length = 2 + (l.flatMap enc).length := by rw [List.length_append, numL_len]
  rw [hl2] at hroom
  have h := count_w b l.length s false hn (by omega) w hb
  unfold maxLen at hc2
  have H := Lib.hid h
  have HE := Lib.hid hE
  have CT := Lib.hid ct
  have HR := Lib.hid hroom
  clear hb h hE hl2 hroom
  go_enter Try.func50, Try.ntmps50
  go_wp2_with fail
  refine H.out.mono ?_
  rintro e w1 ⟨rfl, r1, b1⟩
  have c0 := b1.cell 0
  have c1 := b1.cell 1
  have c2 := b1.cell 2
  simp only [List.getElem?_toArray, List.getElem?_cons_zero, List.getElem?_cons_succ] at c0 c1 c2
  replace ct := r1.cellOf ct (by simp [hp])
  go_wp2_with fail
  go_loopw [46] (fun s46 wr => ∃ k : Nat, k ≤ l.length ∧ s46 = .int .i64 k ∧ Wr [b] w wr ∧ Wlk wr b (addL s (numL l.length 2 ++ (l.take k).flatMap enc)) false) (fun s46 _ => l.length - (intOf s46).toNat)
  case atStart => exact ⟨0, by omega, rfl, r1, by simpa using b1⟩
  case round =>
    obtain ⟨k, hk, rfl, rk, bk⟩ := hrel
    clear c0 c1 c2 ct
    have ct := rk.cellOf CT.out (by simp [hp])
    by_cases hlt : k < l.length
    · obtain ⟨x, hx⟩ : ∃ x, l[k]? = some x := ⟨_, List.getElem?_eq_getElem hlt⟩
      obtain ⟨gb, off, rfl, hcall⟩ := HE.out k x hx
      have hrm := flat_room enc hx
      have hc := hcall wr _ rk bk (by
        have := HR.out
        rw [addL_size, List.length_append, numL_len]
        omega)
      have HC := Lib.hid hc
      have RK := Lib.hid rk
      have HX := Lib.hid hx
      have hlti : (k : Int) < (l.length : Int) := by omega
      have hk0 : (0 : Int) ≤ (k : Int) := by omega
      clear hcall hc rk bk hx hrm
      go_wp2_with fail
      refine HC.out.mono ?_
      rintro e w2 ⟨rfl, r2, b2⟩
      have hb2 : Wlk w2 b (addL s (numL l.length 2 ++ (l.take (k + 1)).flatMap enc)) false := by
        rw [addL_add] at b2
        rw [flat_split enc HX.out, ← List.append_assoc]
        exact b2
      have HB2 := Lib.hid hb2
      have R2 := Lib.hid (RK.out.trans r2)
      clear b2 r2 hb2 ct
      go_wp2_with fail
      go_roundw
      case rel => exact ⟨k + 1, by omega, by go_num, R2.out, HB2.out⟩
      case measure => simp [intOf]; omega
    · obtain rfl : k = l.length := by omega
      have BK := Lib.hid bk
      clear bk
      go_wp2_with fail
      refine bodyPost_end (results_none Try.results50 _ _ _) rfl ?_
      have := BK.out
      rw [List.take_length] at this
      exact ⟨rfl, rk, this⟩
set_option maxRecDepth 100000 in
set_option maxHeartbeats 4000000 in
theorem lw_Str {α : Type} (b q : Nat) (p : Addr) (s : ByteArray) (l : List α) (A : Option Addr) (c : Nat) (enc : α → List UInt8) (hn : l.length ≤ 65535) (hc1 : l.length ≤ c) (hc2 : c ≤ maxLen) (hroom : s.size + (numL l.length 2 ++ l.flatMap enc).length ≤ maxLen) (w : World) (hb : Wlk w b s false) (ct : w.cell? p = some (.slice A l.length c)) (hp : p.block ≠ b)
    (hE : ∀ k x, l[k]? = some x → ∃ gb off, A = some ⟨gb, off, none⟩ ∧ ∀ W s', Wr [b] w W → Wlk W b s' false → s'.size + (enc x).length ≤ maxLen → Calls Try.prog 44 #[.pointer (some ⟨b, 0, none⟩), .pointer (some ⟨gb, off + k, none⟩)] W (EncQ b s' (enc x) false W)) :
    Calls Try.prog 75 #[.pointer (some ⟨b, 0, none⟩), .pointer (some p), .func (.func 44) #[.pointer (some ⟨b, 0, none⟩)] #[]] w (EncQ b s (numL l.length 2 ++ l.flatMap enc) false w) := by
  have hl2 : (numL l.length 2 ++ l.flatMap enc).length = 2 + (l.flatMap enc).length := by rw [List.length_append, numL_len]
  rw [hl2] at hroom
  have h := count_w b l.length s false hn (by omega) w hb
  unfold maxLen at hc2
  have H := Lib.hid h
  have HE := Lib.hid hE
  have CT := Lib.hid ct
  have HR := Lib.hid hroom
  clear hb h hE hl2 hroom
  go_enter Try.func75, Try.ntmps75
  go_wp2_with fail
  refine H.out.mono ?_
  rintro e w1 ⟨rfl, r1, b1⟩
  have c0 := b1.cell 0
  have c1 := b1.cell 1
  have c2 := b1.cell 2
  simp only [List.getElem?_toArray, List.getElem?_cons_zero, List.getElem?_cons_succ] at c0 c1 c2
  replace ct := r1.cellOf ct (by simp [hp])
  go_wp2_with fail
  go_loopw [46] (fun s46 wr => ∃ k : Nat, k ≤ l.length ∧ s46 = .int .i64 k ∧ Wr [b] w wr ∧ Wlk wr b (addL s (numL l.length 2 ++ (l.take k).flatMap enc)) false) (fun s46 _ => l.length - (intOf s46).toNat)
  case atStart => exact ⟨0, by omega, rfl, r1, by simpa using b1⟩
  case round =>
    obtain ⟨k, hk, rfl, rk, bk⟩ := hrel
    clear c0 c1 c2 ct
    have ct := rk.cellOf CT.out (by simp [hp])
    by_cases hlt : k < l.length
    · obtain ⟨x, hx⟩ : ∃ x, l[k]? = some x := ⟨_, List.getElem?_eq_getElem hlt⟩
      obtain ⟨gb, off, rfl, hcall⟩ := HE.out k x hx
      have hrm := flat_room enc hx
      have hc := hcall wr _ rk bk (by
        have := HR.out
        rw [addL_size, List.length_append, numL_len]
        omega)
      have HC := Lib.hid hc
      have RK := Lib.hid rk
      have HX := Lib.hid hx
      have hlti : (k : Int) < (l.length : Int) := by omega
      have hk0 : (0 : Int) ≤ (k : Int) := by omega
      clear hcall hc rk bk hx hrm
      go_wp2_with fail
      refine HC.out.mono ?_
      rintro e w2 ⟨rfl, r2, b2⟩
      have hb2 : Wlk w2 b (addL s (numL l.length 2 ++ (l.take (k + 1)).flatMap enc)) false := by
        rw [addL_add] at b2
        rw [flat_split enc HX.out, ← List.append_assoc]
        exact b2
      have HB2 := Lib.hid hb2
      have R2 := Lib.hid (RK.out.trans r2)
      clear b2 r2 hb2 ct
      go_wp2_with fail
      go_roundw
      case rel => exact ⟨k + 1, by omega, by go_num, R2.out, HB2.out⟩
      case measure => simp [intOf]; omega
    · obtain rfl : k = l.length := by omega
      have BK := Lib.hid bk
      clear bk
      go_wp2_with fail
      refine bodyPost_end (results_none Try.results75 _ _ _) rfl ?_
      have := BK.out
      rw [List.take_length] at this
      exact ⟨rfl, rk, this⟩
set_option maxRecDepth 100000 in
set_option maxHeartbeats 4000000 in
theorem lw_Field {α : Type} (b q : Nat) (p : Addr) (s : ByteArray) (l : List α) (A : Option Addr) (c : Nat) (enc : α → List UInt8) (hn : l.length ≤ 65535) (hc1 : l.length ≤ c) (hc2 : c ≤ maxLen) (hroom : s.size + (numL l.length 2 ++ l.flatMap enc).length ≤ maxLen) (w : World) (hb : Wlk w b s false) (ct : w.cell? p = some (.slice A l.length c)) (hp : p.block ≠ b)
    (hE : ∀ k x, l[k]? = some x → ∃ gb off, A = some ⟨gb, off, none⟩ ∧ ∀ W s', Wr [b] w W → Wlk W b s' false → s'.size + (enc x).length ≤ maxLen → Calls Try.prog 77 #[.pointer (some ⟨gb, off + k * 3, none⟩), .pointer (some ⟨q, 0, none⟩)] W (EncQ b s' (enc x) false W)) :
    Calls Try.prog 76 #[.pointer (some ⟨b, 0, none⟩), .pointer (some p), .func (.func 77) #[] #[.pointer (some ⟨q, 0, none⟩)]] w (EncQ b s (numL l.length 2 ++ l.flatMap enc) false w) := by
  have hl2 : (numL l.length 2 ++ l.flatMap enc).length = 2 + (l.flatMap enc).length := by rw [List.length_append, numL_len]
  rw [hl2] at hroom
  have h := count_w b l.length s false hn (by omega) w hb
  unfold maxLen at hc2
  have H := Lib.hid h
  have HE := Lib.hid hE
  have CT := Lib.hid ct
  have HR := Lib.hid hroom
  clear hb h hE hl2 hroom
  go_enter Try.func76, Try.ntmps76
  go_wp2_with fail
  refine H.out.mono ?_
  rintro e w1 ⟨rfl, r1, b1⟩
  have c0 := b1.cell 0
  have c1 := b1.cell 1
  have c2 := b1.cell 2
  simp only [List.getElem?_toArray, List.getElem?_cons_zero, List.getElem?_cons_succ] at c0 c1 c2
  replace ct := r1.cellOf ct (by simp [hp])
  go_wp2_with fail
  go_loopw [46] (fun s46 wr => ∃ k : Nat, k ≤ l.length ∧ s46 = .int .i64 k ∧ Wr [b] w wr ∧ Wlk wr b (addL s (numL l.length 2 ++ (l.take k).flatMap enc)) false) (fun s46 _ => l.length - (intOf s46).toNat)
  case atStart => exact ⟨0, by omega, rfl, r1, by simpa using b1⟩
  case round =>
    obtain ⟨k, hk, rfl, rk, bk⟩ := hrel
    clear c0 c1 c2 ct
    have ct := rk.cellOf CT.out (by simp [hp])
    by_cases hlt : k < l.length
    · obtain ⟨x, hx⟩ : ∃ x, l[k]? = some x := ⟨_, List.getElem?_eq_getElem hlt⟩
      obtain ⟨gb, off, rfl, hcall⟩ := HE.out k x hx
      have hrm := flat_room enc hx
      have hc := hcall wr _ rk bk (by
        have := HR.out
        rw [addL_size, List.length_append, numL_len]
        omega)
      have HC := Lib.hid hc
      have RK := Lib.hid rk
      have HX := Lib.hid hx
      have hlti : (k : Int) < (l.length : Int) := by omega
      have hk0 : (0 : Int) ≤ (k : Int) := by omega
      clear hcall hc rk bk hx hrm
      go_wp2_with fail
      refine HC.out.mono ?_
      rintro e w2 ⟨rfl, r2, b2⟩
      have hb2 : Wlk w2 b (addL s (numL l.length 2 ++ (l.take (k + 1)).flatMap enc)) false := by
        rw [addL_add] at b2
        rw [flat_split enc HX.out, ← List.append_assoc]
        exact b2
      have HB2 := Lib.hid hb2
      have R2 := Lib.hid (RK.out.trans r2)
      clear b2 r2 hb2 ct
      go_wp2_with fail
      go_roundw
      case rel => exact ⟨k + 1, by omega, by go_num, R2.out, HB2.out⟩
      case measure => simp [intOf]; omega
    · obtain rfl : k = l.length := by omega
      have BK := Lib.hid bk
      clear bk
      go_wp2_with fail
      refine bodyPost_end (results_none Try.results76 _ _ _) rfl ?_
      have := BK.out
      rw [List.take_length] at this
      exact ⟨rfl, rk, this⟩
set_option maxRecDepth 100000 in
set_option maxHeartbeats 4000000 in
theorem lw_Arm {α : Type} (b q : Nat) (p : Addr) (s : ByteArray) (l : List α) (A : Option Addr) (c : Nat) (enc : α → List UInt8) (hn : l.length ≤ 65535) (hc1 : l.length ≤ c) (hc2 : c ≤ maxLen) (hroom : s.size + (numL l.length 2 ++ l.flatMap enc).length ≤ maxLen) (w : World) (hb : Wlk w b s false) (ct : w.cell? p = some (.slice A l.length c)) (hp : p.block ≠ b)
    (hE : ∀ k x, l[k]? = some x → ∃ gb off, A = some ⟨gb, off, none⟩ ∧ ∀ W s', Wr [b] w W → Wlk W b s' false → s'.size + (enc x).length ≤ maxLen → Calls Try.prog 79 #[.pointer (some ⟨b, 0, none⟩), .pointer (some ⟨gb, off + k * 3, none⟩)] W (EncQ b s' (enc x) false W)) :
    Calls Try.prog 78 #[.pointer (some ⟨b, 0, none⟩), .pointer (some p), .func (.func 79) #[.pointer (some ⟨b, 0, none⟩)] #[]] w (EncQ b s (numL l.length 2 ++ l.flatMap enc) false w) := by
  have hl2 : (numL l.length 2 ++ l.flatMap enc).length = 2 + (l.flatMap enc).length := by rw [List.length_append, numL_len]
  rw [hl2] at hroom
  have h := count_w b l.length s false hn (by omega) w hb
  unfold maxLen at hc2
  have H := Lib.hid h
  have HE := Lib.hid hE
  have CT := Lib.hid ct
  have HR := Lib.hid hroom
  clear hb h hE hl2 hroom
  go_enter Try.func78, Try.ntmps78
  go_wp2_with fail
  refine H.out.mono ?_
  rintro e w1 ⟨rfl, r1, b1⟩
  have c0 := b1.cell 0
  have c1 := b1.cell 1
  have c2 := b1.cell 2
  simp only [List.getElem?_toArray, List.getElem?_cons_zero, List.getElem?_cons_succ] at c0 c1 c2
  replace ct := r1.cellOf ct (by simp [hp])
  go_wp2_with fail
  go_loopw [46] (fun s46 wr => ∃ k : Nat, k ≤ l.length ∧ s46 = .int .i64 k ∧ Wr [b] w wr ∧ Wlk wr b (addL s (numL l.length 2 ++ (l.take k).flatMap enc)) false) (fun s46 _ => l.length - (intOf s46).toNat)
  case atStart => exact ⟨0, by omega, rfl, r1, by simpa using b1⟩
  case round =>
    obtain ⟨k, hk, rfl, rk, bk⟩ := hrel
    clear c0 c1 c2 ct
    have ct := rk.cellOf CT.out (by simp [hp])
    by_cases hlt : k < l.length
    · obtain ⟨x, hx⟩ : ∃ x, l[k]? = some x := ⟨_, List.getElem?_eq_getElem hlt⟩
      obtain ⟨gb, off, rfl, hcall⟩ := HE.out k x hx
      have hrm := flat_room enc hx
      have hc := hcall wr _ rk bk (by
        have := HR.out
        rw [addL_size, List.length_append, numL_len]
        omega)
      have HC := Lib.hid hc
      have RK := Lib.hid rk
      have HX := Lib.hid hx
      have hlti : (k : Int) < (l.length : Int) := by omega
      have hk0 : (0 : Int) ≤ (k : Int) := by omega
      clear hcall hc rk bk hx hrm
      go_wp2_with fail
      refine HC.out.mono ?_
      rintro e w2 ⟨rfl, r2, b2⟩
      have hb2 : Wlk w2 b (addL s (numL l.length 2 ++ (l.take (k + 1)).flatMap enc)) false := by
        rw [addL_add] at b2
        rw [flat_split enc HX.out, ← List.append_assoc]
        exact b2
      have HB2 := Lib.hid hb2
      have R2 := Lib.hid (RK.out.trans r2)
      clear b2 r2 hb2 ct
      go_wp2_with fail
      go_roundw
      case rel => exact ⟨k + 1, by omega, by go_num, R2.out, HB2.out⟩
      case measure => simp [intOf]; omega
    · obtain rfl : k = l.length := by omega
      have BK := Lib.hid bk
      clear bk
      go_wp2_with fail
      refine bodyPost_end (results_none Try.results78 _ _ _) rfl ?_
      have := BK.out
      rw [List.take_length] at this
      exact ⟨rfl, rk, this⟩
set_option maxRecDepth 100000 in
set_option maxHeartbeats 4000000 in
theorem lw_Param {α : Type} (b q : Nat) (p : Addr) (s : ByteArray) (l : List α) (A : Option Addr) (c : Nat) (enc : α → List UInt8) (hn : l.length ≤ 65535) (hc1 : l.length ≤ c) (hc2 : c ≤ maxLen) (hroom : s.size + (numL l.length 2 ++ l.flatMap enc).length ≤ maxLen) (w : World) (hb : Wlk w b s false) (ct : w.cell? p = some (.slice A l.length c)) (hp : p.block ≠ b)
    (hE : ∀ k x, l[k]? = some x → ∃ gb off, A = some ⟨gb, off, none⟩ ∧ ∀ W s', Wr [b] w W → Wlk W b s' false → s'.size + (enc x).length ≤ maxLen → Calls Try.prog 81 #[.pointer (some ⟨gb, off + k * 2, none⟩), .pointer (some ⟨q, 0, none⟩)] W (EncQ b s' (enc x) false W)) :
    Calls Try.prog 80 #[.pointer (some ⟨b, 0, none⟩), .pointer (some p), .func (.func 81) #[] #[.pointer (some ⟨q, 0, none⟩)]] w (EncQ b s (numL l.length 2 ++ l.flatMap enc) false w) := by
  have hl2 : (numL l.length 2 ++ l.flatMap enc).length = 2 + (l.flatMap enc).length := by rw [List.length_append, numL_len]
  rw [hl2] at hroom
  have h := count_w b l.length s false hn (by omega) w hb
  unfold maxLen at hc2
  have H := Lib.hid h
  have HE := Lib.hid hE
  have CT := Lib.hid ct
  have HR := Lib.hid hroom
  clear hb h hE hl2 hroom
  go_enter Try.func80, Try.ntmps80
  go_wp2_with fail
  refine H.out.mono ?_
  rintro e w1 ⟨rfl, r1, b1⟩
  have c0 := b1.cell 0
  have c1 := b1.cell 1
  have c2 := b1.cell 2
  simp only [List.getElem?_toArray, List.getElem?_cons_zero, List.getElem?_cons_succ] at c0 c1 c2
  replace ct := r1.cellOf ct (by simp [hp])
  go_wp2_with fail
  go_loopw [46] (fun s46 wr => ∃ k : Nat, k ≤ l.length ∧ s46 = .int .i64 k ∧ Wr [b] w wr ∧ Wlk wr b (addL s (numL l.length 2 ++ (l.take k).flatMap enc)) false) (fun s46 _ => l.length - (intOf s46).toNat)
  case atStart => exact ⟨0, by omega, rfl, r1, by simpa using b1⟩
  case round =>
    obtain ⟨k, hk, rfl, rk, bk⟩ := hrel
    clear c0 c1 c2 ct
    have ct := rk.cellOf CT.out (by simp [hp])
    by_cases hlt : k < l.length
    · obtain ⟨x, hx⟩ : ∃ x, l[k]? = some x := ⟨_, List.getElem?_eq_getElem hlt⟩
      obtain ⟨gb, off, rfl, hcall⟩ := HE.out k x hx
      have hrm := flat_room enc hx
      have hc := hcall wr _ rk bk (by
        have := HR.out
        rw [addL_size, List.length_append, numL_len]
        omega)
      have HC := Lib.hid hc
      have RK := Lib.hid rk
      have HX := Lib.hid hx
      have hlti : (k : Int) < (l.length : Int) := by omega
      have hk0 : (0 : Int) ≤ (k : Int) := by omega
      clear hcall hc rk bk hx hrm
      go_wp2_with fail
      refine HC.out.mono ?_
      rintro e w2 ⟨rfl, r2, b2⟩
      have hb2 : Wlk w2 b (addL s (numL l.length 2 ++ (l.take (k + 1)).flatMap enc)) false := by
        rw [addL_add] at b2
        rw [flat_split enc HX.out, ← List.append_assoc]
        exact b2
      have HB2 := Lib.hid hb2
      have R2 := Lib.hid (RK.out.trans r2)
      clear b2 r2 hb2 ct
      go_wp2_with fail
      go_roundw
      case rel => exact ⟨k + 1, by omega, by go_num, R2.out, HB2.out⟩
      case measure => simp [intOf]; omega
    · obtain rfl : k = l.length := by omega
      have BK := Lib.hid bk
      clear bk
      go_wp2_with fail
      refine bodyPost_end (results_none Try.results80 _ _ _) rfl ?_
      have := BK.out
      rw [List.take_length] at this
      exact ⟨rfl, rk, this⟩
end Go.Proofs.Ytmpbkfbjmmoapaa

/- iface's walk, writing: truths, and what is made of several things: walked. Conditions: what is written fits, there is room. -/
namespace Go.Proofs.Ytmpbkfbjmmoapaa
open Go.RowKit
set_option linter.unusedVariables false
set_option linter.unusedSimpArgs false
theorem four_len (n : Int) : (fourL n).length = 4 := numL_len _ _
theorem number_q (b : Nat) (p : Addr) (s : ByteArray) (w : World) (hb : Wlk w b s false) (hp : p.block ≠ b) (n : Int) (hn : smB n = true) (hroom : s.size + (fourL n).length ≤ maxLen) (ct : Own w p (.int .i64 n)) :
    Calls Try.prog 74 #[.pointer (some ⟨b, 0, none⟩), .pointer (some p)] w (EncQ b s (fourL n) false w) := number_w b p s false w hb hp n hn (by rw [four_len] at hroom; exact hroom) ct
theorem place_q (b : Nat) (p : Addr) (s : ByteArray) (w : World) (hb : Wlk w b s false) (hp : p.block ≠ b) (n : Int) (hn : smB n = true) (hroom : s.size + (fourL n).length ≤ maxLen) (ct : Own w p (.int .i64 n)) :
    Calls Try.prog 53 #[.pointer (some ⟨b, 0, none⟩), .pointer (some p)] w (EncQ b s (fourL n) false w) := place_w b p s false w hb hp n hn (by rw [four_len] at hroom; exact hroom) ct
theorem byte_q (b : Nat) (p : Addr) (s : ByteArray) (w : World) (hb : Wlk w b s false) (hp : p.block ≠ b) (n : Int) (hn : 0 ≤ n ∧ n ≤ 255) (hroom : s.size + (numL n.toNat 1).length ≤ maxLen) (ct : Own w p (.int .u8 n)) :
    Calls Try.prog 52 #[.pointer (some ⟨b, 0, none⟩), .pointer (some p)] w (EncQ b s (numL n.toNat 1) false w) := byte_w b p s false w hb hp n hn.1 hn.2 (by rw [numL_len] at hroom; exact hroom) ct
theorem tru_eq (t : Bool) : truL t = numL (if t then 1 else 0) 1 := by cases t <;> rfl
set_option maxHeartbeats 1000000 in
theorem truth_q (b : Nat) (p : Addr) (s : ByteArray) (w : World) (hb : Wlk w b s false) (hp : p.block ≠ b) (t : Bool) (hroom : s.size + (truL t).length ≤ maxLen) (ct : Own w p (.bool t)) :
    Calls Try.prog 82 #[.pointer (some ⟨b, 0, none⟩), .pointer (some p)] w (EncQ b s (truL t) false w) := by
  have hbl := hb.lt
  have hpl := ct.lt
  have key : ∀ m : Nat, m ≤ 1 → s.size + 1 ≤ maxLen → ∀ W, Blk W w.heap.size 5 #[.int .u8 (m : Int)] → Wlk W b s false → Calls Try.prog 52 #[.pointer (some ⟨b, 0, none⟩), .pointer (some ⟨w.heap.size, 0, none⟩)] W (EncQ b s (numL m 1) false W) := fun m hm hr W nb hw => by
    have := byte_w b ⟨w.heap.size, 0, none⟩ s false W hw (by show w.heap.size ≠ b; omega) (m : Int) (by omega) (by omega) hr ⟨nb.cell 0, nb.frozen 0⟩
    rwa [Int.toNat_natCast] at this
  have hrm : s.size + 1 ≤ maxLen := by
    rw [tru_eq, numL_len] at hroom
    exact hroom
  have c0 := ct.cell
  have CT := Lib.hid ct
  have HB := Lib.hid hb
  cases t
  · have nb := Blk.new w 5 #[.int .u8 0]
    have h := key 0 (by decide) hrm _ nb (hb.alloc _)
    have H := Lib.hid h
    have NB := Lib.hid nb
    have RA := Lib.hid ((Wr.refl [] w).alloc (.cells #[.int .u8 0] 5))
    clear key h hb ct nb hroom hrm
    go_enter Try.func82, Try.ntmps82
    go_wp2_with fail
    refine H.out.mono ?_
    rintro e w1 ⟨rfl, r1, b1⟩
    have r2 : Wr [b] w w1 := RA.out.nil.trans r1
    have ct1 := CT.out.keep r2 (by simpa using hp)
    have n1 := NB.out.wr r1 (by simp; omega)
    have cn := n1.cell 0
    have c1 := ct1.cell
    have f1 := ct1.frozen
    have k2 := b1.cell 2
    have q2 := b1.frozen 2
    simp only [List.getElem?_toArray, List.getElem?_cons_zero, List.getElem?_cons_succ] at cn k2
    clear c0 n1
    have E1 := setCell_self k2
    have E2 := Lib.hid (setCell_self c1)
    go_wp2_with fail
    refine bodyPost_end (results_none Try.results82 _ _ _) rfl ?_
    rw [E2.out, tru_eq]
    exact ⟨rfl, r2, b1⟩
  · have nb := Blk.new w 5 #[.int .u8 1]
    have h := key 1 (by decide) hrm _ nb (hb.alloc _)
    have H := Lib.hid h
    have NB := Lib.hid nb
    have RA := Lib.hid ((Wr.refl [] w).alloc (.cells #[.int .u8 1] 5))
    clear key h hb ct nb hroom hrm
    go_enter Try.func82, Try.ntmps82
    go_wp2_with fail
    refine H.out.mono ?_
    rintro e w1 ⟨rfl, r1, b1⟩
    have r2 : Wr [b] w w1 := RA.out.nil.trans r1
    have ct1 := CT.out.keep r2 (by simpa using hp)
    have n1 := NB.out.wr r1 (by simp; omega)
    have cn := n1.cell 0
    have c1 := ct1.cell
    have f1 := ct1.frozen
    have k2 := b1.cell 2
    have q2 := b1.frozen 2
    simp only [List.getElem?_toArray, List.getElem?_cons_zero, List.getElem?_cons_succ] at cn k2
    clear c0 n1
    have E1 := setCell_self k2
    have E2 := Lib.hid (setCell_self c1)
    go_wp2_with fail
    refine bodyPost_end (results_none Try.results82 _ _ _) rfl ?_
    rw [E2.out, tru_eq]
    exact ⟨rfl, r2, b1⟩
set_option maxRecDepth 100000 in
set_option maxHeartbeats 4000000 in
theorem fld_w (b q g o : Nat) (x : Fld) (s : ByteArray) (w : World) (hb : Wlk w b s false) (hq : w.cell? ⟨q, 0, none⟩ = some (.pointer (some ⟨b, 0, none⟩))) (hqb : q ≠ b) (hgb : g ≠ b) (hc : ∀ j u, (x.cells)[j]? = some u → Own w ⟨g, o + j, none⟩ u) (hf : x.name.size ≤ 255 ∧ smB x.type = true ∧ smB x.arm = true) (hroom : s.size + (fldL x).length ≤ maxLen) :
    Calls Try.prog 77 #[.pointer (some ⟨g, o, none⟩), .pointer (some ⟨q, 0, none⟩)] w (EncQ b s (fldL x) false w) := by
  have heq : fldL x = textL x.name ++ (fourL x.type ++ (fourL x.arm)) := by simp only [fldL, List.append_assoc]
  have EQ := Lib.hid heq
  rw [heq] at hroom
  simp only [List.length_append] at hroom
  have h0 := fun W s' (r : Wr [b] w W) hb hr => text_w b ⟨g, o, none⟩ s' x.name false hf.1 hr W hb (Own.keep (hc 0 _ rfl) r (by simp [hgb])).cell hgb
  have H0 := Lib.hid h0
  have h1 := fun W s' (r : Wr [b] w W) hb hr => place_q b ⟨g, o + 1, none⟩ s' W hb hgb x.type hf.2.1 hr (Own.keep (hc 1 _ rfl) r (by simp [hgb]))
  have H1 := Lib.hid h1
  have h2 := fun W s' (r : Wr [b] w W) hb hr => place_q b ⟨g, o + 2, none⟩ s' W hb hgb x.arm hf.2.2 hr (Own.keep (hc 2 _ rfl) r (by simp [hgb]))
  have H2 := Lib.hid h2
  have HRM := Lib.hid hroom
  have CH := Lib.hid hq
  have acc : Wr [b] w w := Wr.refl _ _
  clear h0 h1 h2 hq hc hroom heq
  go_enter Try.func77, Try.ntmps77
  go_wp2_with fail
  have ch := acc.cellOf CH.out (by simp [hqb])
  go_still_tail 4, (by kernel_rfl)
  change wpList _ _ _ _ _ w.drew
  replace acc := acc.drew
  replace hb := Blk.drew hb
  clear ch
  generalize w.drew = wa0 at *
  go_wp2_with fail
  refine (H0.out _ _ acc hb (by have := HRM.out; (try simp only [addL_size, List.length_append]); omega)).mono ?_
  rintro e w1 ⟨rfl, r1, hb1⟩
  replace acc := acc.trans r1
  clear hb r1
  rename Wlk w1 b _ false => hb
  go_wp2_with fail
  have ch := acc.cellOf CH.out (by simp [hqb])
  go_still_tail 4, (by kernel_rfl)
  change wpList _ _ _ _ _ w1.drew
  replace acc := acc.drew
  replace hb := Blk.drew hb
  clear ch
  generalize w1.drew = wa1 at *
  go_wp2_with fail
  refine (H1.out _ _ acc hb (by have := HRM.out; (try simp only [addL_size, List.length_append]); omega)).mono ?_
  rintro e w2 ⟨rfl, r2, hb2⟩
  replace acc := acc.trans r2
  clear hb r2
  rename Wlk w2 b _ false => hb
  go_wp2_with fail
  have ch := acc.cellOf CH.out (by simp [hqb])
  go_still_tail 4, (by kernel_rfl)
  change wpList _ _ _ _ _ w2.drew
  replace acc := acc.drew
  replace hb := Blk.drew hb
  clear ch
  generalize w2.drew = wa2 at *
  go_wp2_with fail
  refine (H2.out _ _ acc hb (by have := HRM.out; (try simp only [addL_size, List.length_append]); omega)).mono ?_
  rintro e w3 ⟨rfl, r3, hb3⟩
  replace acc := acc.trans r3
  clear hb r3
  rename Wlk w3 b _ false => hb
  go_wp2_with fail
  refine bodyPost_end (results_none Try.results77 _ _ _) rfl ?_
  refine ⟨rfl, acc, ?_⟩
  simp only [addL_add] at hb
  have e : fldL x = textL x.name ++ (fourL x.type ++ (fourL x.arm)) := EQ.out
  rw [e]
  simpa only [List.append_assoc] using hb
set_option maxRecDepth 100000 in
set_option maxHeartbeats 4000000 in
theorem par_w (b q g o : Nat) (x : Par) (s : ByteArray) (w : World) (hb : Wlk w b s false) (hq : w.cell? ⟨q, 0, none⟩ = some (.pointer (some ⟨b, 0, none⟩))) (hqb : q ≠ b) (hgb : g ≠ b) (hc : ∀ j u, (x.cells)[j]? = some u → Own w ⟨g, o + j, none⟩ u) (hf : smB x.type = true) (hroom : s.size + (parL x).length ≤ maxLen) :
    Calls Try.prog 81 #[.pointer (some ⟨g, o, none⟩), .pointer (some ⟨q, 0, none⟩)] w (EncQ b s (parL x) false w) := by
  have heq : parL x = truL x.var ++ (fourL x.type) := by simp only [parL, List.append_assoc]
  have EQ := Lib.hid heq
  rw [heq] at hroom
  simp only [List.length_append] at hroom
  have h0 := fun W s' (r : Wr [b] w W) hb hr => truth_q b ⟨g, o, none⟩ s' W hb hgb x.var hr (Own.keep (hc 0 _ rfl) r (by simp [hgb]))
  have H0 := Lib.hid h0
  have h1 := fun W s' (r : Wr [b] w W) hb hr => place_q b ⟨g, o + 1, none⟩ s' W hb hgb x.type hf hr (Own.keep (hc 1 _ rfl) r (by simp [hgb]))
  have H1 := Lib.hid h1
  have HRM := Lib.hid hroom
  have CH := Lib.hid hq
  have acc : Wr [b] w w := Wr.refl _ _
  clear h0 h1 hq hc hroom heq
  go_enter Try.func81, Try.ntmps81
  go_wp2_with fail
  have ch := acc.cellOf CH.out (by simp [hqb])
  go_still_tail 4, (by kernel_rfl)
  change wpList _ _ _ _ _ w.drew
  replace acc := acc.drew
  replace hb := Blk.drew hb
  clear ch
  generalize w.drew = wa0 at *
  go_wp2_with fail
  refine (H0.out _ _ acc hb (by have := HRM.out; (try simp only [addL_size, List.length_append]); omega)).mono ?_
  rintro e w1 ⟨rfl, r1, hb1⟩
  replace acc := acc.trans r1
  clear hb r1
  rename Wlk w1 b _ false => hb
  go_wp2_with fail
  have ch := acc.cellOf CH.out (by simp [hqb])
  go_still_tail 4, (by kernel_rfl)
  change wpList _ _ _ _ _ w1.drew
  replace acc := acc.drew
  replace hb := Blk.drew hb
  clear ch
  generalize w1.drew = wa1 at *
  go_wp2_with fail
  refine (H1.out _ _ acc hb (by have := HRM.out; (try simp only [addL_size, List.length_append]); omega)).mono ?_
  rintro e w2 ⟨rfl, r2, hb2⟩
  replace acc := acc.trans r2
  clear hb r2
  rename Wlk w2 b _ false => hb
  go_wp2_with fail
  refine bodyPost_end (results_none Try.results81 _ _ _) rfl ?_
  refine ⟨rfl, acc, ?_⟩
  simp only [addL_add] at hb
  have e : parL x = truL x.var ++ (fourL x.type) := EQ.out
  rw [e]
  simpa only [List.append_assoc] using hb
end Go.Proofs.Ytmpbkfbjmmoapaa
