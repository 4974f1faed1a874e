/- The value machine: the code of functions, as its compiler takes it (printed by a program). -/
import Derived.Test.YtglmbheeplndpaaV25
import Derived.Test.YtglmbheeplndpaaProg
set_option linter.all false
set_option linter.unusedSimpArgs false
set_option linter.unusedVariables false
namespace Go.V
open Go Go.Proofs

def c_l08_AttrReads : VC :=
  (.seq
   (.region [⟨some 2, none, .move (.lit (.c (.d (.v (.bool false))))) true⟩])
   (.seq
    (.region [⟨some 7, none, .move (.slot 0) false⟩,
     ⟨some 8, none, .call 6 [.slot 7, .lit (.c (.d (.v (.int .i64 1500))))]⟩,
     ⟨some 0, none, .move (.slot 8) true⟩])
    (.seq
     (.region [⟨some 10, none, .move (.slot 0) false⟩,
      ⟨some 11, none, .call 6 [.slot 10, .lit (.c (.d (.v (.int .i64 1500))))]⟩,
      ⟨some 12, none, .call 7 [.slot 11]⟩,
      ⟨some 9, none, .move (.slot 12) false⟩,
      ⟨some 13, none, .extract (.slot 9) 0 false⟩,
      ⟨some 14, none, .extract (.slot 9) 1 false⟩,
      ⟨some 3, none, .alloc 7 [.d (.v (.int .i64 0)), .d (.v (.int .i64 0)), .nilsl, .d (.v (.int .u32 0)), .d (.v (.int .u32 0)), .d (.v (.int .u32 0)), .d (.v (.int .u32 0)), .d (.v (.int .u32 0)), .nilsl]⟩,
      ⟨some 4, none, .alloc 9 [.d (.v (.int .i64 0)), .d (.v (.int .i64 0)), .nilsl]⟩,
      ⟨none, none, .store (.slot 3) (.slot 13) 9⟩,
      ⟨none, none, .store (.slot 4) (.slot 14) 3⟩])
     (.seq
      (.region [⟨some 16, none, .move (.slot 0) false⟩,
       ⟨some 17, none, .call 8 [.slot 16]⟩,
       ⟨some 15, none, .move (.slot 17) false⟩,
       ⟨some 18, none, .extract (.slot 15) 0 false⟩,
       ⟨some 19, none, .extract (.slot 15) 1 false⟩,
       ⟨some 5, none, .alloc 11 [.d (.v (.int .i64 0)), .d (.v (.int .i64 0)), .nilsl, .d (.v (.int .u32 0)), .d (.v (.int .u32 0)), .d (.v (.int .u32 0)), .d (.v (.int .u32 0)), .d (.v (.int .u32 0)), .nilsl]⟩,
       ⟨some 6, none, .alloc 13 [.d (.v (.int .i64 0)), .d (.v (.int .i64 0)), .nilsl]⟩,
       ⟨none, none, .store (.slot 5) (.slot 18) 9⟩,
       ⟨none, none, .store (.slot 6) (.slot 19) 3⟩])
      (.seq
       (.region [⟨some 20, none, .load (.slot 3) true 9 false⟩,
        ⟨some 21, none, .load (.slot 5) true 9 false⟩,
        ⟨some 22, none, .call 9 [.slot 20, .slot 21]⟩,
        ⟨some 23, none, .move (.slot 22) false⟩,
        ⟨some 24, some (23, true), .load (.slot 4) true 3 false⟩,
        ⟨some 25, some (23, true), .load (.slot 6) true 3 false⟩,
        ⟨some 26, some (23, true), .call 10 [.slot 24, .slot 25]⟩,
        ⟨some 27, none, .pick (.slot 23) (.slot 26) (.lit (.c (.d (.v (.bool false)))))⟩,
        ⟨some 28, none, .move (.slot 27) false⟩,
        ⟨some 29, some (28, true), .call 11 []⟩,
        ⟨some 30, none, .pick (.slot 28) (.slot 29) (.lit (.c (.d (.v (.bool false)))))⟩,
        ⟨some 2, none, .move (.slot 30) true⟩])
       .ret)))))

theorem F_l08_AttrReads : Fn Try.prog 3 Try.f3 31 [] [.t 2] c_l08_AttrReads where
  hm := by kernel_rfl
  hf := Try.func3
  hb := by kernel_rfl
  hc := by kernel_rfl
  hts := by kernel_rfl
  hnd := by decide
  hn := Nat.le_of_eq (by kernel_rfl)

def c_l08_AttrPaths : VC :=
  (.seq
   (.region [⟨some 2, none, .move (.lit (.c (.d (.v (.bool false))))) true⟩])
   (.seq
    (.region [⟨some 7, none, .move (.slot 0) false⟩,
     ⟨some 8, none, .call 6 [.slot 7, .lit (.c (.d (.v (.int .i64 1500))))]⟩,
     ⟨some 0, none, .move (.slot 8) true⟩])
    (.seq
     (.region [⟨some 10, none, .move (.slot 0) false⟩,
      ⟨some 11, none, .call 6 [.slot 10, .lit (.c (.d (.v (.int .i64 1500))))]⟩,
      ⟨some 12, none, .call 12 [.slot 11]⟩,
      ⟨some 9, none, .move (.slot 12) false⟩,
      ⟨some 13, none, .extract (.slot 9) 0 false⟩,
      ⟨some 14, none, .extract (.slot 9) 1 false⟩,
      ⟨some 3, none, .move (.slot 13) true⟩,
      ⟨some 4, none, .move (.slot 14) true⟩])
     (.seq
      (.region [⟨some 16, none, .move (.slot 0) false⟩,
       ⟨some 17, none, .call 13 [.slot 16]⟩,
       ⟨some 15, none, .move (.slot 17) false⟩,
       ⟨some 18, none, .extract (.slot 15) 0 false⟩,
       ⟨some 19, none, .extract (.slot 15) 1 false⟩,
       ⟨some 5, none, .move (.slot 18) true⟩,
       ⟨some 6, none, .move (.slot 19) true⟩])
      (.seq
       (.region [⟨some 20, none, .move (.slot 4) false⟩,
        ⟨some 21, none, .move (.slot 6) false⟩,
        ⟨some 22, none, .bin true .eql (.slot 20) (.slot 21)⟩,
        ⟨some 23, none, .move (.slot 22) false⟩,
        ⟨some 24, some (23, true), .move (.slot 3) false⟩,
        ⟨some 25, some (23, true), .move (.slot 5) false⟩,
        ⟨some 26, some (23, true), .call 14 [.slot 24, .slot 25]⟩,
        ⟨some 27, none, .pick (.slot 23) (.slot 26) (.lit (.c (.d (.v (.bool false)))))⟩,
        ⟨some 28, none, .move (.slot 27) false⟩,
        ⟨some 29, some (28, true), .call 11 []⟩,
        ⟨some 30, none, .pick (.slot 28) (.slot 29) (.lit (.c (.d (.v (.bool false)))))⟩,
        ⟨some 2, none, .move (.slot 30) true⟩])
       .ret)))))

theorem F_l08_AttrPaths : Fn Try.prog 4 Try.f4 31 [] [.t 2] c_l08_AttrPaths where
  hm := by kernel_rfl
  hf := Try.func4
  hb := by kernel_rfl
  hc := by kernel_rfl
  hts := by kernel_rfl
  hnd := by decide
  hn := Nat.le_of_eq (by kernel_rfl)

def c_l08_AttrWrites : VC :=
  (.seq
   (.region [⟨some 1, none, .box 3 9 (.slot 0)⟩,
    ⟨some 2, none, .move (.lit (.c (.d (.v (.bool false))))) true⟩])
   (.seq
    (.region [⟨some 8, none, .load (.slot 1) true 9 false⟩,
     ⟨some 9, none, .call 15 [.slot 8]⟩,
     ⟨none, none, .store (.slot 1) (.slot 9) 9⟩])
    (.seq
     (.region [⟨some 11, none, .load (.slot 1) true 9 false⟩,
      ⟨some 12, none, .call 15 [.slot 11]⟩,
      ⟨some 13, none, .call 16 [.slot 12]⟩,
      ⟨some 10, none, .move (.slot 13) false⟩,
      ⟨some 14, none, .extract (.slot 10) 0 false⟩,
      ⟨some 15, none, .extract (.slot 10) 1 false⟩,
      ⟨some 3, none, .move (.slot 14) true⟩,
      ⟨some 4, none, .move (.slot 15) true⟩])
     (.seq
      (.seq
       (.region [⟨some 16, none, .load (.slot 1) true 9 false⟩,
        ⟨some 17, none, .call 17 [.slot 16]⟩,
        ⟨some 18, none, .un .not (.slot 17)⟩])
       (.cond (.slot 18)
        (.seq
         (.region [⟨some 19, none, .move (.slot 3) false⟩,
          ⟨some 20, none, .len (.slot 19)⟩,
          ⟨some 21, none, .bin false .eql (.slot 20) (.lit (.c (.d (.v (.int .i64 0)))))⟩,
          ⟨some 22, none, .move (.slot 21) false⟩,
          ⟨some 23, some (22, true), .move (.slot 4) false⟩,
          ⟨some 24, some (22, true), .bin false .eql (.slot 23) (.lit (.c (.d (.v (.int .i64 1)))))⟩,
          ⟨some 25, none, .pick (.slot 22) (.slot 24) (.lit (.c (.d (.v (.bool false)))))⟩,
          ⟨some 26, none, .move (.slot 25) false⟩,
          ⟨some 27, some (26, true), .load (.slot 1) true 9 false⟩,
          ⟨some 28, some (26, true), .call 15 [.slot 27]⟩,
          ⟨some 29, some (26, true), .call 18 [.slot 28]⟩,
          ⟨some 30, some (26, true), .bin false .eql (.slot 29) (.lit (.c (.d (.v (.int .i64 0)))))⟩,
          ⟨some 31, none, .pick (.slot 26) (.slot 30) (.lit (.c (.d (.v (.bool false)))))⟩,
          ⟨some 32, none, .move (.slot 31) false⟩,
          ⟨some 33, some (32, true), .call 11 []⟩,
          ⟨some 34, none, .pick (.slot 32) (.slot 33) (.lit (.c (.d (.v (.bool false)))))⟩,
          ⟨some 2, none, .move (.slot 34) true⟩])
         .ret)
        .skip))
      (.seq
       (.region [⟨some 35, none, .load (.slot 1) true 9 false⟩,
        ⟨some 36, none, .call 19 [.slot 35]⟩,
        ⟨some 5, none, .move (.slot 36) true⟩])
       (.seq
        (.region [⟨some 38, none, .buildSlice 5 1 0 [.v (.int .u8 0)] []⟩,
         ⟨some 39, none, .move (.slot 5) false⟩,
         ⟨some 40, none, .append false 5 1 1 (.slot 38) (.slot 39)⟩,
         ⟨some 41, none, .call 7 [.slot 40]⟩,
         ⟨some 37, none, .move (.slot 41) false⟩,
         ⟨some 42, none, .extract (.slot 37) 0 false⟩,
         ⟨some 43, none, .extract (.slot 37) 1 false⟩,
         ⟨some 6, none, .alloc 13 [.d (.v (.int .i64 0)), .d (.v (.int .i64 0)), .nilsl, .d (.v (.int .u32 0)), .d (.v (.int .u32 0)), .d (.v (.int .u32 0)), .d (.v (.int .u32 0)), .d (.v (.int .u32 0)), .nilsl]⟩,
         ⟨some 7, none, .alloc 15 [.d (.v (.int .i64 0)), .d (.v (.int .i64 0)), .nilsl]⟩,
         ⟨none, none, .store (.slot 6) (.slot 42) 9⟩,
         ⟨none, none, .store (.slot 7) (.slot 43) 3⟩])
        (.seq
         (.region (⟨some 44, none, .move (.slot 4) false⟩ ::
          ⟨some 45, none, .bin false .eql (.slot 44) (.lit (.c (.d (.v (.int .i64 0)))))⟩ ::
          ⟨some 46, none, .move (.slot 45) false⟩ ::
          ⟨some 47, some (46, true), .move (.slot 3) false⟩ ::
          ⟨some 48, some (46, true), .toStr (.slot 47)⟩ ::
          ⟨some 49, some (46, true), .move (.slot 5) false⟩ ::
          ⟨some 50, some (46, true), .toStr (.slot 49)⟩ ::
          ⟨some 51, some (46, true), .bin false .eql (.slot 48) (.slot 50)⟩ ::
          ⟨some 52, none, .pick (.slot 46) (.slot 51) (.lit (.c (.d (.v (.bool false)))))⟩ ::
          ⟨some 53, none, .move (.slot 52) false⟩ ::
          ⟨some 54, some (53, true), .load (.slot 1) true 9 false⟩ ::
          ⟨some 55, some (53, true), .call 15 [.slot 54]⟩ ::
          ⟨some 56, some (53, true), .call 18 [.slot 55]⟩ ::
          ⟨some 57, some (53, true), .move (.slot 5) false⟩ ::
          ⟨some 58, some (53, true), .len (.slot 57)⟩ ::
          ⟨some 59, some (53, true), .bin false .eql (.slot 56) (.slot 58)⟩ ::
          ⟨some 60, none, .pick (.slot 53) (.slot 59) (.lit (.c (.d (.v (.bool false)))))⟩ ::
          ⟨some 61, none, .move (.slot 60) false⟩ ::
          ⟨some 62, some (61, true), .load (.slot 6) true 9 false⟩ ::
          ⟨some 63, some (61, true), .load (.slot 1) true 9 false⟩ ::
          ⟨some 64, some (61, true), .call 9 [.slot 62, .slot 63]⟩ ::
          ⟨some 65, none, .pick (.slot 61) (.slot 64) (.lit (.c (.d (.v (.bool false)))))⟩ ::
          ⟨some 66, none, .move (.slot 65) false⟩ ::
          ⟨some 67, some (66, true), .load (.slot 7) true 3 false⟩ ::
          ⟨some 68, some (66, true), .build [.d (.v (.int .i64 0)), .d (.v (.int .i64 0)), .nilsl] []⟩ ::
          ⟨some 69, some (66, true), .call 10 [.slot 67, .slot 68]⟩ ::
          ⟨some 70, none, .pick (.slot 66) (.slot 69) (.lit (.c (.d (.v (.bool false)))))⟩ ::
          ⟨some 71, none, .move (.slot 70) false⟩ ::
          ⟨some 72, some (71, true), .call 11 []⟩ ::
          ⟨some 73, none, .pick (.slot 71) (.slot 72) (.lit (.c (.d (.v (.bool false)))))⟩ ::
          ⟨some 2, none, .move (.slot 73) true⟩ :: []))
         .ret)))))))

theorem F_l08_AttrWrites : Fn Try.prog 5 Try.f5 74 [] [.t 2] c_l08_AttrWrites where
  hm := by kernel_rfl
  hf := Try.func5
  hb := by kernel_rfl
  hc := by kernel_rfl
  hts := by kernel_rfl
  hnd := by decide
  hn := Nat.le_of_eq (by kernel_rfl)

def c_l06_Bytes : VC :=
  (.seq
   (.region [⟨some 4, none, .move (.lit (.c .nilsl)) true⟩])
   (.seq
    (.seq
     (.region [⟨some 5, none, .move (.slot 0) false⟩,
      ⟨some 6, none, .len (.slot 5)⟩,
      ⟨some 7, none, .move (.slot 1) false⟩,
      ⟨some 8, none, .bin false .gtr (.slot 6) (.slot 7)⟩])
     (.cond (.slot 8)
      (.region [⟨some 9, none, .move (.slot 0) false⟩,
       ⟨some 10, none, .move (.slot 1) false⟩,
       ⟨some 11, none, .slice 1 (.slot 9) none (some (.slot 10)) none⟩,
       ⟨some 0, none, .move (.slot 11) true⟩])
      .skip))
    (.seq
     (.region [⟨some 12, none, .buildSlice 5 1 0 [.v (.int .u8 0)] []⟩,
      ⟨some 13, none, .move (.slot 0) false⟩,
      ⟨some 14, none, .append false 5 1 1 (.slot 12) (.slot 13)⟩,
      ⟨some 4, none, .move (.slot 14) true⟩])
     .ret)))

theorem F_l06_Bytes : Fn Try.prog 6 Try.f6 15 [] [.t 4] c_l06_Bytes where
  hm := by kernel_rfl
  hf := Try.func6
  hb := by kernel_rfl
  hc := by kernel_rfl
  hts := by kernel_rfl
  hnd := by decide
  hn := Nat.le_of_eq (by kernel_rfl)

def c_attr_Decode : VC :=
  (.seq
   (.region [⟨some 2, none, .alloc 5 [.d (.v (.int .i64 0)), .d (.v (.int .i64 0)), .nilsl, .d (.v (.int .u32 0)), .d (.v (.int .u32 0)), .d (.v (.int .u32 0)), .d (.v (.int .u32 0)), .d (.v (.int .u32 0)), .nilsl]⟩,
    ⟨some 3, none, .alloc 7 [.d (.v (.int .i64 0)), .d (.v (.int .i64 0)), .nilsl]⟩])
   (.seq
    (.region [⟨some 10, none, .build [.d (.v (.int .i64 0)), .d (.v (.int .i64 0)), .nilsl, .d (.v (.int .u32 0)), .d (.v (.int .u32 0)), .d (.v (.int .u32 0)), .d (.v (.int .u32 0)), .d (.v (.int .u32 0)), .nilsl] []⟩,
     ⟨some 4, none, .alloc 9 [.d (.v (.int .i64 0)), .d (.v (.int .i64 0)), .nilsl, .d (.v (.int .u32 0)), .d (.v (.int .u32 0)), .d (.v (.int .u32 0)), .d (.v (.int .u32 0)), .d (.v (.int .u32 0)), .nilsl]⟩,
     ⟨none, none, .store (.slot 4) (.slot 10) 9⟩])
    (.seq
     (.region [⟨some 11, none, .move (.slot 0) false⟩,
      ⟨some 12, none, .call 20 [.slot 11]⟩,
      ⟨some 5, none, .move (.slot 12) true⟩])
     (.seq
      (.region [⟨some 6, none, .alloc 13 [.d (.v (.bool false)), .d (.v (.bool false)), .d (.v (.bool false)), .d (.v (.bool false)), .d (.v (.bool false)), .d (.v (.bool false)), .d (.v (.bool false)), .d (.v (.bool false)), .d (.v (.bool false)), .d (.v (.bool false)), .d (.v (.bool false)), .d (.v (.bool false)), .d (.v (.bool false)), .d (.v (.bool false)), .d (.v (.bool false)), .d (.v (.bool false)), .d (.v (.bool false)), .d (.v (.bool false)), .d (.v (.bool false)), .d (.v (.bool false)), .d (.v (.bool false)), .d (.v (.bool false)), .d (.v (.bool false)), .d (.v (.bool false)), .d (.v (.bool false)), .d (.v (.bool false)), .d (.v (.bool false)), .d (.v (.bool false)), .d (.v (.bool false)), .d (.v (.bool false)), .d (.v (.bool false)), .d (.v (.bool false)), .d (.v (.bool false)), .d (.v (.bool false)), .d (.v (.bool false)), .d (.v (.bool false)), .d (.v (.bool false)), .d (.v (.bool false)), .d (.v (.bool false)), .d (.v (.bool false)), .d (.v (.bool false)), .d (.v (.bool false)), .d (.v (.bool false)), .d (.v (.bool false)), .d (.v (.bool false)), .d (.v (.bool false)), .d (.v (.bool false)), .d (.v (.bool false)), .d (.v (.bool false)), .d (.v (.bool false)), .d (.v (.bool false)), .d (.v (.bool false)), .d (.v (.bool false)), .d (.v (.bool false)), .d (.v (.bool false)), .d (.v (.bool false)), .d (.v (.bool false)), .d (.v (.bool false)), .d (.v (.bool false)), .d (.v (.bool false)), .d (.v (.bool false)), .d (.v (.bool false)), .d (.v (.bool false)), .d (.v (.bool false)), .d (.v (.bool false)), .d (.v (.bool false)), .d (.v (.bool false)), .d (.v (.bool false)), .d (.v (.bool false)), .d (.v (.bool false)), .d (.v (.bool false)), .d (.v (.bool false)), .d (.v (.bool false)), .d (.v (.bool false)), .d (.v (.bool false)), .d (.v (.bool false)), .d (.v (.bool false)), .d (.v (.bool false)), .d (.v (.bool false)), .d (.v (.bool false)), .d (.v (.bool false)), .d (.v (.bool false)), .d (.v (.bool false)), .d (.v (.bool false)), .d (.v (.bool false)), .d (.v (.bool false)), .d (.v (.bool false)), .d (.v (.bool false)), .d (.v (.bool false)), .d (.v (.bool false)), .d (.v (.bool false)), .d (.v (.bool false)), .d (.v (.bool false)), .d (.v (.bool false)), .d (.v (.bool false)), .d (.v (.bool false)), .d (.v (.bool false)), .d (.v (.bool false)), .d (.v (.bool false)), .d (.v (.bool false)), .d (.v (.bool false)), .d (.v (.bool false)), .d (.v (.bool false)), .d (.v (.bool false)), .d (.v (.bool false)), .d (.v (.bool false)), .d (.v (.bool false)), .d (.v (.bool false)), .d (.v (.bool false)), .d (.v (.bool false)), .d (.v (.bool false)), .d (.v (.bool false)), .d (.v (.bool false)), .d (.v (.bool false)), .d (.v (.bool false)), .d (.v (.bool false)), .d (.v (.bool false)), .d (.v (.bool false)), .d (.v (.bool false)), .d (.v (.bool false)), .d (.v (.bool false)), .d (.v (.bool false)), .d (.v (.bool false)), .d (.v (.bool false)), .d (.v (.bool false)), .d (.v (.bool false)), .d (.v (.bool false)), .d (.v (.bool false)), .d (.v (.bool false)), .d (.v (.bool false)), .d (.v (.bool false)), .d (.v (.bool false)), .d (.v (.bool false)), .d (.v (.bool false)), .d (.v (.bool false)), .d (.v (.bool false)), .d (.v (.bool false)), .d (.v (.bool false)), .d (.v (.bool false)), .d (.v (.bool false)), .d (.v (.bool false)), .d (.v (.bool false)), .d (.v (.bool false)), .d (.v (.bool false)), .d (.v (.bool false)), .d (.v (.bool false)), .d (.v (.bool false)), .d (.v (.bool false)), .d (.v (.bool false)), .d (.v (.bool false)), .d (.v (.bool false)), .d (.v (.bool false)), .d (.v (.bool false)), .d (.v (.bool false)), .d (.v (.bool false)), .d (.v (.bool false)), .d (.v (.bool false)), .d (.v (.bool false)), .d (.v (.bool false)), .d (.v (.bool false)), .d (.v (.bool false)), .d (.v (.bool false)), .d (.v (.bool false)), .d (.v (.bool false)), .d (.v (.bool false)), .d (.v (.bool false)), .d (.v (.bool false)), .d (.v (.bool false)), .d (.v (.bool false)), .d (.v (.bool false)), .d (.v (.bool false)), .d (.v (.bool false)), .d (.v (.bool false)), .d (.v (.bool false)), .d (.v (.bool false)), .d (.v (.bool false)), .d (.v (.bool false)), .d (.v (.bool false)), .d (.v (.bool false)), .d (.v (.bool false)), .d (.v (.bool false)), .d (.v (.bool false)), .d (.v (.bool false)), .d (.v (.bool false)), .d (.v (.bool false)), .d (.v (.bool false)), .d (.v (.bool false)), .d (.v (.bool false)), .d (.v (.bool false)), .d (.v (.bool false)), .d (.v (.bool false)), .d (.v (.bool false)), .d (.v (.bool false)), .d (.v (.bool false)), .d (.v (.bool false)), .d (.v (.bool false)), .d (.v (.bool false)), .d (.v (.bool false)), .d (.v (.bool false)), .d (.v (.bool false)), .d (.v (.bool false)), .d (.v (.bool false)), .d (.v (.bool false)), .d (.v (.bool false)), .d (.v (.bool false)), .d (.v (.bool false)), .d (.v (.bool false)), .d (.v (.bool false)), .d (.v (.bool false)), .d (.v (.bool false)), .d (.v (.bool false)), .d (.v (.bool false)), .d (.v (.bool false)), .d (.v (.bool false)), .d (.v (.bool false)), .d (.v (.bool false)), .d (.v (.bool false)), .d (.v (.bool false)), .d (.v (.bool false)), .d (.v (.bool false)), .d (.v (.bool false)), .d (.v (.bool false)), .d (.v (.bool false)), .d (.v (.bool false)), .d (.v (.bool false)), .d (.v (.bool false)), .d (.v (.bool false)), .d (.v (.bool false)), .d (.v (.bool false)), .d (.v (.bool false)), .d (.v (.bool false)), .d (.v (.bool false)), .d (.v (.bool false)), .d (.v (.bool false)), .d (.v (.bool false)), .d (.v (.bool false)), .d (.v (.bool false)), .d (.v (.bool false)), .d (.v (.bool false)), .d (.v (.bool false)), .d (.v (.bool false)), .d (.v (.bool false)), .d (.v (.bool false)), .d (.v (.bool false)), .d (.v (.bool false)), .d (.v (.bool false)), .d (.v (.bool false)), .d (.v (.bool false)), .d (.v (.bool false)), .d (.v (.bool false)), .d (.v (.bool false)), .d (.v (.bool false)), .d (.v (.bool false)), .d (.v (.bool false)), .d (.v (.bool false)), .d (.v (.bool false))]⟩])
      (.seq
       (.block 0
        (.loop
         (.seq
          (.seq
           (.region [⟨some 13, none, .move (.slot 5) false⟩,
            ⟨some 14, none, .call 21 [.slot 13]⟩,
            ⟨some 15, none, .bin false .gtr (.slot 14) (.lit (.c (.d (.v (.int .i64 0)))))⟩])
           (.cond (.slot 15)
            .skip
            (.exit 0)))
          (.block 1
           (.seq
            (.region [⟨some 17, none, .move (.slot 5) false⟩,
             ⟨some 18, none, .call 22 [.slot 17]⟩,
             ⟨some 16, none, .move (.slot 18) false⟩,
             ⟨some 19, none, .extract (.slot 16) 0 false⟩,
             ⟨some 20, none, .extract (.slot 16) 1 false⟩,
             ⟨some 7, none, .alloc 15 [.d (.v (.int .i64 0)), .d (.v (.int .i64 0)), .nilsl, .nilsl]⟩,
             ⟨none, none, .store (.slot 7) (.slot 19) 4⟩,
             ⟨some 8, none, .move (.slot 20) true⟩])
            (.seq
             (.seq
              (.region [⟨some 21, none, .move (.slot 8) false⟩,
               ⟨some 22, none, .un .not (.slot 21)⟩,
               ⟨some 23, none, .move (.slot 22) false⟩,
               ⟨some 24, some (23, false), .fieldAddr (.slot 7) 1⟩,
               ⟨some 25, some (23, false), .load (.slot 24) false 1 false⟩,
               ⟨some 26, some (23, false), .indexArr (.slot 6) (.slot 25) 256 1⟩,
               ⟨some 27, some (23, false), .load (.slot 26) false 1 false⟩,
               ⟨some 28, none, .pick (.slot 23) (.lit (.c (.d (.v (.bool true))))) (.slot 27)⟩])
              (.cond (.slot 28)
               (.seq
                (.region [⟨some 29, none, .build [.d (.v (.int .i64 0)), .d (.v (.int .i64 0)), .nilsl, .d (.v (.int .u32 0)), .d (.v (.int .u32 0)), .d (.v (.int .u32 0)), .d (.v (.int .u32 0)), .d (.v (.int .u32 0)), .nilsl] []⟩,
                 ⟨some 30, none, .call 23 [.lit (.c (.d (.v (.int .i64 1)))), .lit (.c .nilsl)]⟩,
                 ⟨none, none, .store (.slot 2) (.slot 29) 9⟩,
                 ⟨none, none, .store (.slot 3) (.slot 30) 3⟩])
                .ret)
               .skip))
             (.seq
              (.region [⟨some 31, none, .fieldAddr (.slot 7) 1⟩,
               ⟨some 32, none, .load (.slot 31) false 1 false⟩,
               ⟨some 33, none, .indexArr (.slot 6) (.slot 32) 256 1⟩,
               ⟨none, none, .store (.slot 33) (.lit (.c (.d (.v (.bool true))))) 1⟩])
              (.seq
               (.region [⟨some 34, none, .load (.slot 7) true 4 false⟩,
                ⟨some 35, none, .call 24 [.slot 34, .slot 4]⟩,
                ⟨some 9, none, .move (.slot 35) true⟩])
               (.seq
                (.region [⟨some 36, none, .move (.slot 9) false⟩,
                 ⟨some 37, none, .bin false .neq (.slot 36) (.lit (.c (.d (.v (.int .i64 0)))))⟩])
                (.cond (.slot 37)
                 (.seq
                  (.region [⟨some 38, none, .build [.d (.v (.int .i64 0)), .d (.v (.int .i64 0)), .nilsl, .d (.v (.int .u32 0)), .d (.v (.int .u32 0)), .d (.v (.int .u32 0)), .d (.v (.int .u32 0)), .d (.v (.int .u32 0)), .nilsl] []⟩,
                   ⟨some 39, none, .move (.slot 9) false⟩,
                   ⟨some 40, none, .fieldAddr (.slot 7) 3⟩,
                   ⟨some 41, none, .load (.slot 40) false 1 false⟩,
                   ⟨some 42, none, .call 23 [.slot 39, .slot 41]⟩,
                   ⟨none, none, .store (.slot 2) (.slot 38) 9⟩,
                   ⟨none, none, .store (.slot 3) (.slot 42) 3⟩])
                  .ret)
                 .skip))))))))))
       (.seq
        (.region [⟨some 43, none, .load (.slot 4) true 9 false⟩,
         ⟨some 44, none, .call 25 [.slot 43]⟩,
         ⟨some 45, none, .build [.d (.v (.int .i64 0)), .d (.v (.int .i64 0)), .nilsl] []⟩,
         ⟨none, none, .store (.slot 2) (.slot 44) 9⟩,
         ⟨none, none, .store (.slot 3) (.slot 45) 3⟩])
        .ret))))))

theorem F_attr_Decode : Fn Try.prog 7 Try.f7 46 [] [.cell 2 true 9, .cell 3 true 3] c_attr_Decode where
  hm := by kernel_rfl
  hf := Try.func7
  hb := by kernel_rfl
  hc := by kernel_rfl
  hts := by kernel_rfl
  hnd := by decide
  hn := Nat.le_of_eq (by kernel_rfl)

def c_r08_Decode : VC :=
  (.seq
   (.region [⟨some 2, none, .alloc 5 [.d (.v (.int .i64 0)), .d (.v (.int .i64 0)), .nilsl, .d (.v (.int .u32 0)), .d (.v (.int .u32 0)), .d (.v (.int .u32 0)), .d (.v (.int .u32 0)), .d (.v (.int .u32 0)), .nilsl]⟩,
    ⟨some 3, none, .alloc 7 [.d (.v (.int .i64 0)), .d (.v (.int .i64 0)), .nilsl]⟩])
   (.seq
    (.region [⟨some 17, none, .build [.d (.v (.int .i64 0)), .d (.v (.int .i64 0)), .nilsl, .d (.v (.int .u32 0)), .d (.v (.int .u32 0)), .d (.v (.int .u32 0)), .d (.v (.int .u32 0)), .d (.v (.int .u32 0)), .nilsl] []⟩,
     ⟨some 18, none, .build [.d (.v (.int .i64 0)), .d (.v (.int .i64 0)), .nilsl, .d (.v (.int .u32 0)), .d (.v (.int .u32 0)), .d (.v (.int .u32 0)), .d (.v (.int .u32 0)), .d (.v (.int .u32 0)), .nilsl] []⟩,
     ⟨some 4, none, .alloc 9 [.d (.v (.int .i64 0)), .d (.v (.int .i64 0)), .nilsl, .d (.v (.int .u32 0)), .d (.v (.int .u32 0)), .d (.v (.int .u32 0)), .d (.v (.int .u32 0)), .d (.v (.int .u32 0)), .nilsl]⟩,
     ⟨some 5, none, .alloc 11 [.d (.v (.int .i64 0)), .d (.v (.int .i64 0)), .nilsl, .d (.v (.int .u32 0)), .d (.v (.int .u32 0)), .d (.v (.int .u32 0)), .d (.v (.int .u32 0)), .d (.v (.int .u32 0)), .nilsl]⟩,
     ⟨none, none, .store (.slot 4) (.slot 17) 9⟩,
     ⟨none, none, .store (.slot 5) (.slot 18) 9⟩])
    (.seq
     (.region [⟨some 19, none, .build [.d (.v (.int .i64 0)), .d (.v (.int .i64 0)), .nilsl] [(0, (1, .lit (.c (.d (.v (.int .i64 3)))))), (1, (1, .lit (.c (.d (.v (.int .i64 1))))))]⟩,
      ⟨some 6, none, .alloc 13 [.d (.v (.int .i64 0)), .d (.v (.int .i64 0)), .nilsl]⟩,
      ⟨none, none, .store (.slot 6) (.slot 19) 3⟩])
     (.seq
      (.region [⟨some 7, none, .alloc 15 [.d (.v (.bool false)), .d (.v (.bool false)), .d (.v (.bool false)), .d (.v (.bool false)), .d (.v (.bool false)), .d (.v (.bool false)), .d (.v (.bool false)), .d (.v (.bool false)), .d (.v (.bool false)), .d (.v (.bool false)), .d (.v (.bool false)), .d (.v (.bool false)), .d (.v (.bool false)), .d (.v (.bool false)), .d (.v (.bool false)), .d (.v (.bool false)), .d (.v (.bool false)), .d (.v (.bool false)), .d (.v (.bool false)), .d (.v (.bool false)), .d (.v (.bool false)), .d (.v (.bool false)), .d (.v (.bool false)), .d (.v (.bool false)), .d (.v (.bool false)), .d (.v (.bool false)), .d (.v (.bool false)), .d (.v (.bool false)), .d (.v (.bool false)), .d (.v (.bool false)), .d (.v (.bool false)), .d (.v (.bool false)), .d (.v (.bool false)), .d (.v (.bool false)), .d (.v (.bool false)), .d (.v (.bool false)), .d (.v (.bool false)), .d (.v (.bool false)), .d (.v (.bool false)), .d (.v (.bool false)), .d (.v (.bool false)), .d (.v (.bool false)), .d (.v (.bool false)), .d (.v (.bool false)), .d (.v (.bool false)), .d (.v (.bool false)), .d (.v (.bool false)), .d (.v (.bool false)), .d (.v (.bool false)), .d (.v (.bool false)), .d (.v (.bool false)), .d (.v (.bool false)), .d (.v (.bool false)), .d (.v (.bool false)), .d (.v (.bool false)), .d (.v (.bool false)), .d (.v (.bool false)), .d (.v (.bool false)), .d (.v (.bool false)), .d (.v (.bool false)), .d (.v (.bool false)), .d (.v (.bool false)), .d (.v (.bool false)), .d (.v (.bool false)), .d (.v (.bool false)), .d (.v (.bool false)), .d (.v (.bool false)), .d (.v (.bool false)), .d (.v (.bool false)), .d (.v (.bool false)), .d (.v (.bool false)), .d (.v (.bool false)), .d (.v (.bool false)), .d (.v (.bool false)), .d (.v (.bool false)), .d (.v (.bool false)), .d (.v (.bool false)), .d (.v (.bool false)), .d (.v (.bool false)), .d (.v (.bool false)), .d (.v (.bool false)), .d (.v (.bool false)), .d (.v (.bool false)), .d (.v (.bool false)), .d (.v (.bool false)), .d (.v (.bool false)), .d (.v (.bool false)), .d (.v (.bool false)), .d (.v (.bool false)), .d (.v (.bool false)), .d (.v (.bool false)), .d (.v (.bool false)), .d (.v (.bool false)), .d (.v (.bool false)), .d (.v (.bool false)), .d (.v (.bool false)), .d (.v (.bool false)), .d (.v (.bool false)), .d (.v (.bool false)), .d (.v (.bool false)), .d (.v (.bool false)), .d (.v (.bool false)), .d (.v (.bool false)), .d (.v (.bool false)), .d (.v (.bool false)), .d (.v (.bool false)), .d (.v (.bool false)), .d (.v (.bool false)), .d (.v (.bool false)), .d (.v (.bool false)), .d (.v (.bool false)), .d (.v (.bool false)), .d (.v (.bool false)), .d (.v (.bool false)), .d (.v (.bool false)), .d (.v (.bool false)), .d (.v (.bool false)), .d (.v (.bool false)), .d (.v (.bool false)), .d (.v (.bool false)), .d (.v (.bool false)), .d (.v (.bool false)), .d (.v (.bool false)), .d (.v (.bool false)), .d (.v (.bool false)), .d (.v (.bool false)), .d (.v (.bool false)), .d (.v (.bool false)), .d (.v (.bool false)), .d (.v (.bool false)), .d (.v (.bool false)), .d (.v (.bool false)), .d (.v (.bool false)), .d (.v (.bool false)), .d (.v (.bool false)), .d (.v (.bool false)), .d (.v (.bool false)), .d (.v (.bool false)), .d (.v (.bool false)), .d (.v (.bool false)), .d (.v (.bool false)), .d (.v (.bool false)), .d (.v (.bool false)), .d (.v (.bool false)), .d (.v (.bool false)), .d (.v (.bool false)), .d (.v (.bool false)), .d (.v (.bool false)), .d (.v (.bool false)), .d (.v (.bool false)), .d (.v (.bool false)), .d (.v (.bool false)), .d (.v (.bool false)), .d (.v (.bool false)), .d (.v (.bool false)), .d (.v (.bool false)), .d (.v (.bool false)), .d (.v (.bool false)), .d (.v (.bool false)), .d (.v (.bool false)), .d (.v (.bool false)), .d (.v (.bool false)), .d (.v (.bool false)), .d (.v (.bool false)), .d (.v (.bool false)), .d (.v (.bool false)), .d (.v (.bool false)), .d (.v (.bool false)), .d (.v (.bool false)), .d (.v (.bool false)), .d (.v (.bool false)), .d (.v (.bool false)), .d (.v (.bool false)), .d (.v (.bool false)), .d (.v (.bool false)), .d (.v (.bool false)), .d (.v (.bool false)), .d (.v (.bool false)), .d (.v (.bool false)), .d (.v (.bool false)), .d (.v (.bool false)), .d (.v (.bool false)), .d (.v (.bool false)), .d (.v (.bool false)), .d (.v (.bool false)), .d (.v (.bool false)), .d (.v (.bool false)), .d (.v (.bool false)), .d (.v (.bool false)), .d (.v (.bool false)), .d (.v (.bool false)), .d (.v (.bool false)), .d (.v (.bool false)), .d (.v (.bool false)), .d (.v (.bool false)), .d (.v (.bool false)), .d (.v (.bool false)), .d (.v (.bool false)), .d (.v (.bool false)), .d (.v (.bool false)), .d (.v (.bool false)), .d (.v (.bool false)), .d (.v (.bool false)), .d (.v (.bool false)), .d (.v (.bool false)), .d (.v (.bool false)), .d (.v (.bool false)), .d (.v (.bool false)), .d (.v (.bool false)), .d (.v (.bool false)), .d (.v (.bool false)), .d (.v (.bool false)), .d (.v (.bool false)), .d (.v (.bool false)), .d (.v (.bool false)), .d (.v (.bool false)), .d (.v (.bool false)), .d (.v (.bool false)), .d (.v (.bool false)), .d (.v (.bool false)), .d (.v (.bool false)), .d (.v (.bool false)), .d (.v (.bool false)), .d (.v (.bool false)), .d (.v (.bool false)), .d (.v (.bool false)), .d (.v (.bool false)), .d (.v (.bool false)), .d (.v (.bool false)), .d (.v (.bool false)), .d (.v (.bool false)), .d (.v (.bool false)), .d (.v (.bool false)), .d (.v (.bool false)), .d (.v (.bool false)), .d (.v (.bool false)), .d (.v (.bool false)), .d (.v (.bool false)), .d (.v (.bool false)), .d (.v (.bool false)), .d (.v (.bool false)), .d (.v (.bool false)), .d (.v (.bool false)), .d (.v (.bool false)), .d (.v (.bool false)), .d (.v (.bool false)), .d (.v (.bool false)), .d (.v (.bool false)), .d (.v (.bool false)), .d (.v (.bool false)), .d (.v (.bool false)), .d (.v (.bool false)), .d (.v (.bool false)), .d (.v (.bool false)), .d (.v (.bool false)), .d (.v (.bool false))]⟩])
      (.seq
       (.seq
        (.region [⟨some 8, none, .move (.lit (.c (.d (.v (.int .i64 0))))) true⟩])
        (.block 0
         (.loop
          (.seq
           (.seq
            (.region [⟨some 20, none, .move (.slot 8) false⟩,
             ⟨some 21, none, .move (.slot 0) false⟩,
             ⟨some 22, none, .len (.slot 21)⟩,
             ⟨some 23, none, .bin false .lss (.slot 20) (.slot 22)⟩])
            (.cond (.slot 23)
             .skip
             (.exit 0)))
           (.block 1
            (.seq
             (.region [⟨some 9, none, .move (.lit (.c (.d (.v (.int .i64 3))))) true⟩])
             (.seq
              (.seq
               (.region [⟨some 24, none, .move (.slot 8) false⟩,
                ⟨some 25, none, .bin false .add (.slot 24) (.lit (.c (.d (.v (.int .i64 1)))))⟩,
                ⟨some 26, none, .move (.slot 0) false⟩,
                ⟨some 27, none, .len (.slot 26)⟩,
                ⟨some 28, none, .bin false .lss (.slot 25) (.slot 27)⟩,
                ⟨some 29, none, .move (.slot 28) false⟩,
                ⟨some 30, some (29, true), .move (.slot 0) false⟩,
                ⟨some 31, some (29, true), .move (.slot 8) false⟩,
                ⟨some 32, some (29, true), .indexAddr (.slot 30) (.slot 31) 1⟩,
                ⟨some 33, some (29, true), .load (.slot 32) false 1 false⟩,
                ⟨some 34, some (29, true), .bin false .and (.slot 33) (.lit (.c (.d (.v (.int .u8 16)))))⟩,
                ⟨some 35, some (29, true), .bin false .neq (.slot 34) (.lit (.c (.d (.v (.int .u8 0)))))⟩,
                ⟨some 36, none, .pick (.slot 29) (.slot 35) (.lit (.c (.d (.v (.bool false)))))⟩])
               (.cond (.slot 36)
                (.region [⟨some 9, none, .move (.lit (.c (.d (.v (.int .i64 4))))) true⟩])
                .skip))
              (.seq
               (.seq
                (.region [⟨some 37, none, .move (.slot 8) false⟩,
                 ⟨some 38, none, .move (.slot 9) false⟩,
                 ⟨some 39, none, .bin false .add (.slot 37) (.slot 38)⟩,
                 ⟨some 40, none, .move (.slot 0) false⟩,
                 ⟨some 41, none, .len (.slot 40)⟩,
                 ⟨some 42, none, .bin false .gtr (.slot 39) (.slot 41)⟩])
                (.cond (.slot 42)
                 (.seq
                  (.draw [(1, 2)] [⟨some 43, none, .load (.slot 5) true 9 false⟩,
                   ⟨some 44, none, .load (.slot 6) true 3 false⟩,
                   ⟨none, none, .store (.slot 2) (.slot 43) 9⟩,
                   ⟨none, none, .store (.slot 3) (.slot 44) 3⟩])
                  .ret)
                 .skip))
               (.seq
                (.draw [] [⟨some 45, none, .move (.slot 0) false⟩,
                 ⟨some 46, none, .move (.slot 8) false⟩,
                 ⟨some 47, none, .bin false .add (.slot 46) (.lit (.c (.d (.v (.int .i64 1)))))⟩,
                 ⟨some 48, none, .indexAddr (.slot 45) (.slot 47) 1⟩,
                 ⟨some 49, none, .load (.slot 48) false 1 false⟩,
                 ⟨some 50, none, .conv .i64 (.slot 49)⟩,
                 ⟨some 51, none, .move (.slot 0) false⟩,
                 ⟨some 52, none, .move (.slot 8) false⟩,
                 ⟨some 53, none, .indexAddr (.slot 51) (.slot 52) 1⟩,
                 ⟨some 54, none, .load (.slot 53) false 1 false⟩,
                 ⟨some 55, none, .conv .i64 (.slot 54)⟩,
                 ⟨some 10, none, .move (.slot 50) true⟩,
                 ⟨some 11, none, .move (.slot 55) true⟩])
                (.seq
                 (.region [⟨some 56, none, .move (.slot 0) false⟩,
                  ⟨some 57, none, .move (.slot 8) false⟩,
                  ⟨some 58, none, .bin false .add (.slot 57) (.lit (.c (.d (.v (.int .i64 2)))))⟩,
                  ⟨some 59, none, .move (.slot 8) false⟩,
                  ⟨some 60, none, .move (.slot 9) false⟩,
                  ⟨some 61, none, .bin false .add (.slot 59) (.slot 60)⟩,
                  ⟨some 62, none, .slice 1 (.slot 56) (some (.slot 58)) (some (.slot 61)) none⟩,
                  ⟨some 63, none, .call 26 [.slot 62]⟩,
                  ⟨some 64, none, .conv .i64 (.slot 63)⟩,
                  ⟨some 12, none, .move (.slot 64) true⟩])
                 (.seq
                  (.seq
                   (.region [⟨some 65, none, .move (.slot 8) false⟩,
                    ⟨some 66, none, .move (.slot 9) false⟩,
                    ⟨some 67, none, .bin false .add (.slot 65) (.slot 66)⟩,
                    ⟨some 68, none, .move (.slot 12) false⟩,
                    ⟨some 69, none, .bin false .add (.slot 67) (.slot 68)⟩,
                    ⟨some 70, none, .move (.slot 0) false⟩,
                    ⟨some 71, none, .len (.slot 70)⟩,
                    ⟨some 72, none, .bin false .gtr (.slot 69) (.slot 71)⟩,
                    ⟨some 73, none, .move (.slot 72) false⟩,
                    ⟨some 74, some (73, false), .move (.slot 10) false⟩,
                    ⟨some 75, some (73, false), .indexArr (.slot 7) (.slot 74) 256 1⟩,
                    ⟨some 76, some (73, false), .load (.slot 75) false 1 false⟩,
                    ⟨some 77, none, .pick (.slot 73) (.lit (.c (.d (.v (.bool true))))) (.slot 76)⟩])
                   (.cond (.slot 77)
                    (.seq
                     (.draw [(1, 2)] [⟨some 78, none, .load (.slot 5) true 9 false⟩,
                      ⟨some 79, none, .load (.slot 6) true 3 false⟩,
                      ⟨none, none, .store (.slot 2) (.slot 78) 9⟩,
                      ⟨none, none, .store (.slot 3) (.slot 79) 3⟩])
                     .ret)
                    .skip))
                  (.seq
                   (.region [⟨some 80, none, .move (.slot 10) false⟩,
                    ⟨some 81, none, .indexArr (.slot 7) (.slot 80) 256 1⟩,
                    ⟨none, none, .store (.slot 81) (.lit (.c (.d (.v (.bool true))))) 1⟩])
                   (.seq
                    (.draw [] [⟨some 82, none, .move (.slot 0) false⟩,
                     ⟨some 83, none, .move (.slot 8) false⟩,
                     ⟨some 84, none, .move (.slot 9) false⟩,
                     ⟨some 85, none, .bin false .add (.slot 83) (.slot 84)⟩,
                     ⟨some 86, none, .move (.slot 8) false⟩,
                     ⟨some 87, none, .move (.slot 9) false⟩,
                     ⟨some 88, none, .bin false .add (.slot 86) (.slot 87)⟩,
                     ⟨some 89, none, .move (.slot 12) false⟩,
                     ⟨some 90, none, .bin false .add (.slot 88) (.slot 89)⟩,
                     ⟨some 91, none, .slice 1 (.slot 82) (some (.slot 85)) (some (.slot 90)) none⟩,
                     ⟨some 92, none, .move (.slot 0) false⟩,
                     ⟨some 93, none, .move (.slot 8) false⟩,
                     ⟨some 94, none, .move (.slot 8) false⟩,
                     ⟨some 95, none, .move (.slot 9) false⟩,
                     ⟨some 96, none, .bin false .add (.slot 94) (.slot 95)⟩,
                     ⟨some 97, none, .move (.slot 12) false⟩,
                     ⟨some 98, none, .bin false .add (.slot 96) (.slot 97)⟩,
                     ⟨some 99, none, .slice 1 (.slot 92) (some (.slot 93)) (some (.slot 98)) none⟩,
                     ⟨some 13, none, .move (.slot 91) true⟩,
                     ⟨some 14, none, .move (.slot 99) true⟩])
                    (.seq
                     (.region [⟨some 100, none, .move (.slot 8) false⟩,
                      ⟨some 101, none, .move (.slot 9) false⟩,
                      ⟨some 102, none, .bin false .add (.slot 100) (.slot 101)⟩,
                      ⟨some 103, none, .move (.slot 12) false⟩,
                      ⟨some 104, none, .bin false .add (.slot 102) (.slot 103)⟩,
                      ⟨some 8, none, .move (.slot 104) true⟩])
                     (.seq
                      (.region [⟨some 105, none, .move (.slot 11) false⟩,
                       ⟨some 15, none, .move (.slot 105) true⟩])
                      (.seq
                       (.seq
                        (.region [⟨some 106, none, .move (.slot 11) false⟩,
                         ⟨some 107, none, .bin false .and (.slot 106) (.lit (.c (.d (.v (.int .i64 16)))))⟩,
                         ⟨some 108, none, .bin false .neq (.slot 107) (.lit (.c (.d (.v (.int .i64 0)))))⟩])
                        (.cond (.slot 108)
                         (.region [⟨some 109, none, .move (.slot 15) false⟩,
                          ⟨some 110, none, .bin false .sub (.slot 109) (.lit (.c (.d (.v (.int .i64 16)))))⟩,
                          ⟨some 15, none, .move (.slot 110) true⟩])
                         .skip))
                       (.seq
                        (.seq
                         (.region [⟨some 111, none, .move (.slot 10) false⟩,
                          ⟨some 112, none, .bin false .geq (.slot 111) (.lit (.c (.d (.v (.int .i64 7)))))⟩,
                          ⟨some 113, none, .move (.slot 112) false⟩,
                          ⟨some 114, some (113, true), .move (.slot 15) false⟩,
                          ⟨some 115, some (113, true), .bin false .and (.slot 114) (.lit (.c (.d (.v (.int .i64 32)))))⟩,
                          ⟨some 116, some (113, true), .bin false .neq (.slot 115) (.lit (.c (.d (.v (.int .i64 0)))))⟩,
                          ⟨some 117, none, .pick (.slot 113) (.slot 116) (.lit (.c (.d (.v (.bool false)))))⟩])
                         (.cond (.slot 117)
                          (.region [⟨some 118, none, .move (.slot 15) false⟩,
                           ⟨some 119, none, .bin false .sub (.slot 118) (.lit (.c (.d (.v (.int .i64 32)))))⟩,
                           ⟨some 15, none, .move (.slot 119) true⟩])
                          .skip))
                        (.seq
                         (.region [⟨some 16, none, .move (.lit (.c (.d (.v (.int .i64 0))))) true⟩])
                         (.seq
                          (.seq
                           (.region [⟨some 120, none, .move (.slot 10) false⟩,
                            ⟨some 121, none, .bin false .lss (.slot 120) (.lit (.c (.d (.v (.int .i64 1)))))⟩,
                            ⟨some 122, none, .move (.slot 121) false⟩,
                            ⟨some 123, some (122, false), .move (.slot 10) false⟩,
                            ⟨some 124, some (122, false), .bin false .gtr (.slot 123) (.lit (.c (.d (.v (.int .i64 8)))))⟩,
                            ⟨some 125, none, .pick (.slot 122) (.lit (.c (.d (.v (.bool true))))) (.slot 124)⟩])
                           (.cond (.slot 125)
                            (.seq
                             (.region [⟨some 126, none, .move (.slot 11) false⟩,
                              ⟨some 127, none, .bin false .lss (.slot 126) (.lit (.c (.d (.v (.int .i64 128)))))⟩])
                             (.cond (.slot 127)
                              (.region [⟨some 16, none, .move (.lit (.c (.d (.v (.int .i64 2))))) true⟩])
                              .skip))
                            (.seq
                             (.region [⟨some 128, none, .move (.slot 15) false⟩,
                              ⟨some 129, none, .move (.slot 10) false⟩,
                              ⟨some 130, none, .call 27 [.slot 129]⟩,
                              ⟨some 131, none, .bin false .neq (.slot 128) (.slot 130)⟩])
                             (.cond (.slot 131)
                              (.region [⟨some 16, none, .move (.lit (.c (.d (.v (.int .i64 4))))) true⟩])
                              (.seq
                               (.region [⟨some 132, none, .move (.slot 10) false⟩,
                                ⟨some 133, none, .move (.slot 12) false⟩,
                                ⟨some 134, none, .call 28 [.slot 132, .slot 133]⟩,
                                ⟨some 135, none, .un .not (.slot 134)⟩])
                               (.cond (.slot 135)
                                (.region [⟨some 16, none, .move (.lit (.c (.d (.v (.int .i64 5))))) true⟩])
                                (.seq
                                 (.region [⟨some 136, none, .move (.slot 10) false⟩,
                                  ⟨some 137, none, .move (.slot 13) false⟩,
                                  ⟨some 138, none, .call 29 [.slot 4, .slot 136, .slot 137]⟩,
                                  ⟨some 16, none, .move (.slot 138) true⟩])
                                 (.region [⟨some 139, none, .fieldAddr (.slot 4) 0⟩,
                                  ⟨some 140, none, .load (.slot 139) false 1 false⟩,
                                  ⟨some 141, none, .move (.slot 10) false⟩,
                                  ⟨some 142, none, .conv .u64 (.slot 141)⟩,
                                  ⟨some 143, none, .bin false .shl (.lit (.c (.d (.v (.int .i64 1))))) (.slot 142)⟩,
                                  ⟨some 144, none, .bin false .add (.slot 140) (.slot 143)⟩,
                                  ⟨some 145, none, .fieldAddr (.slot 4) 0⟩,
                                  ⟨none, none, .store (.slot 145) (.slot 144) 1⟩]))))))))
                          (.seq
                           (.seq
                            (.region [⟨some 146, none, .move (.slot 16) false⟩,
                             ⟨some 147, none, .bin false .eql (.slot 146) (.lit (.c (.d (.v (.int .i64 11)))))⟩])
                            (.cond (.slot 147)
                             (.seq
                              (.region [⟨some 148, none, .load (.slot 5) true 9 false⟩,
                               ⟨some 149, none, .build [.d (.v (.int .i64 0)), .d (.v (.int .i64 0)), .nilsl] [(0, (1, .lit (.c (.d (.v (.int .i64 3)))))), (1, (1, .lit (.c (.d (.v (.int .i64 11))))))]⟩,
                               ⟨none, none, .store (.slot 2) (.slot 148) 9⟩,
                               ⟨none, none, .store (.slot 3) (.slot 149) 3⟩])
                              .ret)
                             .skip))
                           (.seq
                            (.region [⟨some 150, none, .move (.slot 16) false⟩,
                             ⟨some 151, none, .bin false .neq (.slot 150) (.lit (.c (.d (.v (.int .i64 0)))))⟩])
                            (.cond (.slot 151)
                             (.seq
                              (.region [⟨some 152, none, .load (.slot 5) true 9 false⟩,
                               ⟨some 153, none, .move (.slot 16) false⟩,
                               ⟨some 154, none, .move (.slot 14) false⟩,
                               ⟨some 155, none, .build [.d (.v (.int .i64 0)), .d (.v (.int .i64 0)), .nilsl] [(0, (1, .lit (.c (.d (.v (.int .i64 3)))))), (1, (1, .slot 153)), (2, (1, .slot 154))]⟩,
                               ⟨none, none, .store (.slot 2) (.slot 152) 9⟩,
                               ⟨none, none, .store (.slot 3) (.slot 155) 3⟩])
                              .ret)
                             .skip))))))))))))))))))))))
       (.seq
        (.region [⟨some 156, none, .load (.slot 4) true 9 false⟩,
         ⟨some 157, none, .call 30 [.slot 156]⟩,
         ⟨some 158, none, .build [.d (.v (.int .i64 0)), .d (.v (.int .i64 0)), .nilsl] []⟩,
         ⟨none, none, .store (.slot 2) (.slot 157) 9⟩,
         ⟨none, none, .store (.slot 3) (.slot 158) 3⟩])
        .ret))))))

theorem F_r08_Decode : Fn Try.prog 8 Try.f8 159 [] [.cell 2 true 9, .cell 3 true 3] c_r08_Decode where
  hm := by kernel_rfl
  hf := Try.func8
  hb := by kernel_rfl
  hc := by kernel_rfl
  hts := by kernel_rfl
  hnd := by decide
  hn := Nat.le_of_eq (by kernel_rfl)

def c_r08_Same : VC :=
  (.seq
   (.region [⟨some 2, none, .box 5 9 (.slot 0)⟩,
    ⟨some 3, none, .box 7 9 (.slot 1)⟩,
    ⟨some 4, none, .move (.lit (.c (.d (.v (.bool false))))) true⟩])
   (.seq
    (.region (⟨some 5, none, .fieldAddr (.slot 2) 0⟩ ::
     ⟨some 6, none, .load (.slot 5) false 1 false⟩ ::
     ⟨some 7, none, .fieldAddr (.slot 3) 0⟩ ::
     ⟨some 8, none, .load (.slot 7) false 1 false⟩ ::
     ⟨some 9, none, .bin false .eql (.slot 6) (.slot 8)⟩ ::
     ⟨some 10, none, .move (.slot 9) false⟩ ::
     ⟨some 11, some (10, true), .fieldAddr (.slot 2) 1⟩ ::
     ⟨some 12, some (10, true), .load (.slot 11) false 1 false⟩ ::
     ⟨some 13, some (10, true), .fieldAddr (.slot 3) 1⟩ ::
     ⟨some 14, some (10, true), .load (.slot 13) false 1 false⟩ ::
     ⟨some 15, some (10, true), .bin false .eql (.slot 12) (.slot 14)⟩ ::
     ⟨some 16, none, .pick (.slot 10) (.slot 15) (.lit (.c (.d (.v (.bool false)))))⟩ ::
     ⟨some 17, none, .move (.slot 16) false⟩ ::
     ⟨some 18, some (17, true), .fieldAddr (.slot 2) 2⟩ ::
     ⟨some 19, some (17, true), .load (.slot 18) false 1 false⟩ ::
     ⟨some 20, some (17, true), .fieldAddr (.slot 3) 2⟩ ::
     ⟨some 21, some (17, true), .load (.slot 20) false 1 false⟩ ::
     ⟨some 22, some (17, true), .call 14 [.slot 19, .slot 21]⟩ ::
     ⟨some 23, none, .pick (.slot 17) (.slot 22) (.lit (.c (.d (.v (.bool false)))))⟩ ::
     ⟨some 24, none, .move (.slot 23) false⟩ ::
     ⟨some 25, some (24, true), .fieldAddr (.slot 2) 3⟩ ::
     ⟨some 26, some (24, true), .load (.slot 25) false 1 false⟩ ::
     ⟨some 27, some (24, true), .fieldAddr (.slot 3) 3⟩ ::
     ⟨some 28, some (24, true), .load (.slot 27) false 1 false⟩ ::
     ⟨some 29, some (24, true), .bin false .eql (.slot 26) (.slot 28)⟩ ::
     ⟨some 30, none, .pick (.slot 24) (.slot 29) (.lit (.c (.d (.v (.bool false)))))⟩ ::
     ⟨some 31, none, .move (.slot 30) false⟩ ::
     ⟨some 32, some (31, true), .fieldAddr (.slot 2) 4⟩ ::
     ⟨some 33, some (31, true), .load (.slot 32) false 1 false⟩ ::
     ⟨some 34, some (31, true), .fieldAddr (.slot 3) 4⟩ ::
     ⟨some 35, some (31, true), .load (.slot 34) false 1 false⟩ ::
     ⟨some 36, some (31, true), .bin false .eql (.slot 33) (.slot 35)⟩ ::
     ⟨some 37, none, .pick (.slot 31) (.slot 36) (.lit (.c (.d (.v (.bool false)))))⟩ ::
     ⟨some 38, none, .move (.slot 37) false⟩ ::
     ⟨some 39, some (38, true), .fieldAddr (.slot 2) 5⟩ ::
     ⟨some 40, some (38, true), .load (.slot 39) false 1 false⟩ ::
     ⟨some 41, some (38, true), .fieldAddr (.slot 3) 5⟩ ::
     ⟨some 42, some (38, true), .load (.slot 41) false 1 false⟩ ::
     ⟨some 43, some (38, true), .bin false .eql (.slot 40) (.slot 42)⟩ ::
     ⟨some 44, none, .pick (.slot 38) (.slot 43) (.lit (.c (.d (.v (.bool false)))))⟩ ::
     ⟨some 45, none, .move (.slot 44) false⟩ ::
     ⟨some 46, some (45, true), .fieldAddr (.slot 2) 6⟩ ::
     ⟨some 47, some (45, true), .load (.slot 46) false 1 false⟩ ::
     ⟨some 48, some (45, true), .fieldAddr (.slot 3) 6⟩ ::
     ⟨some 49, some (45, true), .load (.slot 48) false 1 false⟩ ::
     ⟨some 50, some (45, true), .bin false .eql (.slot 47) (.slot 49)⟩ ::
     ⟨some 51, none, .pick (.slot 45) (.slot 50) (.lit (.c (.d (.v (.bool false)))))⟩ ::
     ⟨some 52, none, .move (.slot 51) false⟩ ::
     ⟨some 53, some (52, true), .fieldAddr (.slot 2) 7⟩ ::
     ⟨some 54, some (52, true), .load (.slot 53) false 1 false⟩ ::
     ⟨some 55, some (52, true), .fieldAddr (.slot 3) 7⟩ ::
     ⟨some 56, some (52, true), .load (.slot 55) false 1 false⟩ ::
     ⟨some 57, some (52, true), .bin false .eql (.slot 54) (.slot 56)⟩ ::
     ⟨some 58, none, .pick (.slot 52) (.slot 57) (.lit (.c (.d (.v (.bool false)))))⟩ ::
     ⟨some 59, none, .move (.slot 58) false⟩ ::
     ⟨some 60, some (59, true), .fieldAddr (.slot 2) 8⟩ ::
     ⟨some 61, some (59, true), .load (.slot 60) false 1 false⟩ ::
     ⟨some 62, some (59, true), .fieldAddr (.slot 3) 8⟩ ::
     ⟨some 63, some (59, true), .load (.slot 62) false 1 false⟩ ::
     ⟨some 64, some (59, true), .call 31 [.slot 61, .slot 63]⟩ ::
     ⟨some 65, none, .pick (.slot 59) (.slot 64) (.lit (.c (.d (.v (.bool false)))))⟩ ::
     ⟨some 4, none, .move (.slot 65) true⟩ :: []))
    .ret))

theorem F_r08_Same : Fn Try.prog 9 Try.f9 66 [] [.t 4] c_r08_Same where
  hm := by kernel_rfl
  hf := Try.func9
  hb := by kernel_rfl
  hc := by kernel_rfl
  hts := by kernel_rfl
  hnd := by decide
  hn := Nat.le_of_eq (by kernel_rfl)

def c_r08_Told : VC :=
  (.seq
   (.region [⟨some 2, none, .box 5 3 (.slot 0)⟩,
    ⟨some 3, none, .box 7 3 (.slot 1)⟩,
    ⟨some 4, none, .move (.lit (.c (.d (.v (.bool false))))) true⟩])
   (.seq
    (.region [⟨some 5, none, .fieldAddr (.slot 2) 0⟩,
     ⟨some 6, none, .load (.slot 5) false 1 false⟩,
     ⟨some 7, none, .fieldAddr (.slot 3) 0⟩,
     ⟨some 8, none, .load (.slot 7) false 1 false⟩,
     ⟨some 9, none, .bin false .eql (.slot 6) (.slot 8)⟩,
     ⟨some 10, none, .move (.slot 9) false⟩,
     ⟨some 11, some (10, true), .fieldAddr (.slot 2) 1⟩,
     ⟨some 12, some (10, true), .load (.slot 11) false 1 false⟩,
     ⟨some 13, some (10, true), .fieldAddr (.slot 3) 1⟩,
     ⟨some 14, some (10, true), .load (.slot 13) false 1 false⟩,
     ⟨some 15, some (10, true), .bin false .eql (.slot 12) (.slot 14)⟩,
     ⟨some 16, none, .pick (.slot 10) (.slot 15) (.lit (.c (.d (.v (.bool false)))))⟩,
     ⟨some 17, none, .move (.slot 16) false⟩,
     ⟨some 18, some (17, true), .fieldAddr (.slot 2) 2⟩,
     ⟨some 19, some (17, true), .load (.slot 18) false 1 false⟩,
     ⟨some 20, some (17, true), .toStr (.slot 19)⟩,
     ⟨some 21, some (17, true), .fieldAddr (.slot 3) 2⟩,
     ⟨some 22, some (17, true), .load (.slot 21) false 1 false⟩,
     ⟨some 23, some (17, true), .toStr (.slot 22)⟩,
     ⟨some 24, some (17, true), .bin false .eql (.slot 20) (.slot 23)⟩,
     ⟨some 25, none, .pick (.slot 17) (.slot 24) (.lit (.c (.d (.v (.bool false)))))⟩,
     ⟨some 4, none, .move (.slot 25) true⟩])
    .ret))

theorem F_r08_Told : Fn Try.prog 10 Try.f10 26 [] [.t 4] c_r08_Told where
  hm := by kernel_rfl
  hf := Try.func10
  hb := by kernel_rfl
  hc := by kernel_rfl
  hts := by kernel_rfl
  hnd := by decide
  hn := Nat.le_of_eq (by kernel_rfl)

def c_l08_lives : VC :=
  (.seq
   (.region [⟨some 0, none, .move (.lit (.c (.d (.v (.bool false))))) true⟩])
   (.seq
    (.region [⟨some 6, none, .build [.d (.v (.int .i64 0)), .d (.v (.int .i64 0)), .nilsl, .d (.v (.int .u32 0)), .d (.v (.int .u32 0)), .d (.v (.int .u32 0)), .d (.v (.int .u32 0)), .d (.v (.int .u32 0)), .nilsl] [(0, (1, .lit (.c (.d (.v (.int .i64 2))))))]⟩,
     ⟨some 7, none, .call 16 [.slot 6]⟩,
     ⟨some 5, none, .move (.slot 7) false⟩,
     ⟨some 8, none, .extract (.slot 5) 0 false⟩,
     ⟨some 9, none, .extract (.slot 5) 1 false⟩,
     ⟨some 1, none, .move (.slot 8) true⟩,
     ⟨some 2, none, .move (.slot 9) true⟩])
    (.seq
     (.region [⟨some 11, none, .buildSlice 5 1 4 [.v (.int .u8 0)] [(0, .lit (.c (.d (.v (.int .u8 64))))), (1, .lit (.c (.d (.v (.int .u8 1))))), (2, .lit (.c (.d (.v (.int .u8 1))))), (3, .lit (.c (.d (.v (.int .u8 2)))))]⟩,
      ⟨some 12, none, .call 7 [.slot 11]⟩,
      ⟨some 10, none, .move (.slot 12) false⟩,
      ⟨some 13, none, .extract (.slot 10) 0 false⟩,
      ⟨some 14, none, .extract (.slot 10) 1 false⟩,
      ⟨some 3, none, .alloc 7 [.d (.v (.int .i64 0)), .d (.v (.int .i64 0)), .nilsl, .d (.v (.int .u32 0)), .d (.v (.int .u32 0)), .d (.v (.int .u32 0)), .d (.v (.int .u32 0)), .d (.v (.int .u32 0)), .nilsl]⟩,
      ⟨some 4, none, .alloc 9 [.d (.v (.int .i64 0)), .d (.v (.int .i64 0)), .nilsl]⟩,
      ⟨none, none, .store (.slot 3) (.slot 13) 9⟩,
      ⟨none, none, .store (.slot 4) (.slot 14) 3⟩])
     (.seq
      (.region [⟨some 15, none, .move (.slot 2) false⟩,
       ⟨some 16, none, .bin false .eql (.slot 15) (.lit (.c (.d (.v (.int .i64 0)))))⟩,
       ⟨some 17, none, .move (.slot 16) false⟩,
       ⟨some 18, some (17, true), .move (.slot 1) false⟩,
       ⟨some 19, some (17, true), .toStr (.slot 18)⟩,
       ⟨some 20, some (17, true), .bin false .eql (.slot 19) (.lit (.c (.d (.v (.string ⟨#[64, 1, 1, 0]⟩)))))⟩,
       ⟨some 21, none, .pick (.slot 17) (.slot 20) (.lit (.c (.d (.v (.bool false)))))⟩,
       ⟨some 22, none, .move (.slot 21) false⟩,
       ⟨some 23, some (22, true), .fieldAddr (.slot 3) 1⟩,
       ⟨some 24, some (22, true), .load (.slot 23) false 1 false⟩,
       ⟨some 25, some (22, true), .bin false .eql (.slot 24) (.lit (.c (.d (.v (.int .i64 2)))))⟩,
       ⟨some 26, none, .pick (.slot 22) (.slot 25) (.lit (.c (.d (.v (.bool false)))))⟩,
       ⟨some 27, none, .move (.slot 26) false⟩,
       ⟨some 28, some (27, true), .fieldAddr (.slot 3) 0⟩,
       ⟨some 29, some (27, true), .load (.slot 28) false 1 false⟩,
       ⟨some 30, some (27, true), .bin false .eql (.slot 29) (.lit (.c (.d (.v (.int .i64 2)))))⟩,
       ⟨some 31, none, .pick (.slot 27) (.slot 30) (.lit (.c (.d (.v (.bool false)))))⟩,
       ⟨some 32, none, .move (.slot 31) false⟩,
       ⟨some 33, some (32, true), .fieldAddr (.slot 4) 0⟩,
       ⟨some 34, some (32, true), .load (.slot 33) false 1 false⟩,
       ⟨some 35, some (32, true), .bin false .eql (.slot 34) (.lit (.c (.d (.v (.int .i64 0)))))⟩,
       ⟨some 36, none, .pick (.slot 32) (.slot 35) (.lit (.c (.d (.v (.bool false)))))⟩,
       ⟨some 0, none, .move (.slot 36) true⟩])
      .ret))))

theorem F_l08_lives : Fn Try.prog 11 Try.f11 37 [] [.t 0] c_l08_lives where
  hm := by kernel_rfl
  hf := Try.func11
  hb := by kernel_rfl
  hc := by kernel_rfl
  hts := by kernel_rfl
  hnd := by decide
  hn := Nat.le_of_eq (by kernel_rfl)

def c_attr_Path : VC :=
  (.seq
   (.region [⟨some 2, none, .move (.lit (.c .nilsl)) true⟩,
    ⟨some 3, none, .move (.lit (.c (.d (.v (.bool false))))) true⟩])
   (.seq
    (.region [⟨some 4, none, .move (.slot 0) false⟩,
     ⟨some 5, none, .call 32 [.slot 4]⟩,
     ⟨some 6, none, .extract (.slot 5) 0 true⟩,
     ⟨some 7, none, .extract (.slot 5) 1 true⟩,
     ⟨some 2, none, .move (.slot 6) true⟩,
     ⟨some 3, none, .move (.slot 7) true⟩])
    .ret))

theorem F_attr_Path : Fn Try.prog 12 Try.f12 8 [6,7] [.t 2, .t 3] c_attr_Path where
  hm := by kernel_rfl
  hf := Try.func12
  hb := by kernel_rfl
  hc := by kernel_rfl
  hts := by kernel_rfl
  hnd := by decide
  hn := Nat.le_of_eq (by kernel_rfl)

def c_r08_Path : VC :=
  (.seq
   (.region [⟨some 2, none, .move (.lit (.c .nilsl)) true⟩,
    ⟨some 3, none, .move (.lit (.c (.d (.v (.bool false))))) true⟩])
   (.seq
    (.region [⟨some 8, none, .buildSlice 65 2 0 [.v (.int .i64 0), .sl []] []⟩,
     ⟨some 4, none, .move (.slot 8) true⟩])
    (.seq
     (.seq
      (.region [⟨some 5, none, .move (.lit (.c (.d (.v (.int .i64 0))))) true⟩])
      (.block 0
       (.loop
        (.seq
         (.seq
          (.region [⟨some 9, none, .move (.slot 5) false⟩,
           ⟨some 10, none, .move (.slot 0) false⟩,
           ⟨some 11, none, .len (.slot 10)⟩,
           ⟨some 12, none, .bin false .lss (.slot 9) (.slot 11)⟩])
          (.cond (.slot 12)
           .skip
           (.exit 0)))
         (.block 1
          (.seq
           (.seq
            (.region (⟨some 13, none, .move (.slot 5) false⟩ ::
             ⟨some 14, none, .bin false .add (.slot 13) (.lit (.c (.d (.v (.int .i64 2)))))⟩ ::
             ⟨some 15, none, .move (.slot 0) false⟩ ::
             ⟨some 16, none, .len (.slot 15)⟩ ::
             ⟨some 17, none, .bin false .gtr (.slot 14) (.slot 16)⟩ ::
             ⟨some 18, none, .move (.slot 17) false⟩ ::
             ⟨some 19, some (18, false), .move (.slot 0) false⟩ ::
             ⟨some 20, some (18, false), .move (.slot 5) false⟩ ::
             ⟨some 21, some (18, false), .indexAddr (.slot 19) (.slot 20) 1⟩ ::
             ⟨some 22, some (18, false), .load (.slot 21) false 1 false⟩ ::
             ⟨some 23, some (18, false), .bin false .lss (.slot 22) (.lit (.c (.d (.v (.int .u8 1)))))⟩ ::
             ⟨some 24, none, .pick (.slot 18) (.lit (.c (.d (.v (.bool true))))) (.slot 23)⟩ ::
             ⟨some 25, none, .move (.slot 24) false⟩ ::
             ⟨some 26, some (25, false), .move (.slot 0) false⟩ ::
             ⟨some 27, some (25, false), .move (.slot 5) false⟩ ::
             ⟨some 28, some (25, false), .indexAddr (.slot 26) (.slot 27) 1⟩ ::
             ⟨some 29, some (25, false), .load (.slot 28) false 1 false⟩ ::
             ⟨some 30, some (25, false), .bin false .gtr (.slot 29) (.lit (.c (.d (.v (.int .u8 2)))))⟩ ::
             ⟨some 31, none, .pick (.slot 25) (.lit (.c (.d (.v (.bool true))))) (.slot 30)⟩ ::
             ⟨some 32, none, .move (.slot 31) false⟩ ::
             ⟨some 33, some (32, false), .move (.slot 0) false⟩ ::
             ⟨some 34, some (32, false), .move (.slot 5) false⟩ ::
             ⟨some 35, some (32, false), .bin false .add (.slot 34) (.lit (.c (.d (.v (.int .i64 1)))))⟩ ::
             ⟨some 36, some (32, false), .indexAddr (.slot 33) (.slot 35) 1⟩ ::
             ⟨some 37, some (32, false), .load (.slot 36) false 1 false⟩ ::
             ⟨some 38, some (32, false), .bin false .eql (.slot 37) (.lit (.c (.d (.v (.int .u8 0)))))⟩ ::
             ⟨some 39, none, .pick (.slot 32) (.lit (.c (.d (.v (.bool true))))) (.slot 38)⟩ ::
             ⟨some 40, none, .move (.slot 39) false⟩ ::
             ⟨some 41, some (40, false), .move (.slot 5) false⟩ ::
             ⟨some 42, some (40, false), .bin false .add (.slot 41) (.lit (.c (.d (.v (.int .i64 2)))))⟩ ::
             ⟨some 43, some (40, false), .move (.slot 0) false⟩ ::
             ⟨some 44, some (40, false), .move (.slot 5) false⟩ ::
             ⟨some 45, some (40, false), .bin false .add (.slot 44) (.lit (.c (.d (.v (.int .i64 1)))))⟩ ::
             ⟨some 46, some (40, false), .indexAddr (.slot 43) (.slot 45) 1⟩ ::
             ⟨some 47, some (40, false), .load (.slot 46) false 1 false⟩ ::
             ⟨some 48, some (40, false), .conv .i64 (.slot 47)⟩ ::
             ⟨some 49, some (40, false), .bin false .mul (.lit (.c (.d (.v (.int .i64 4))))) (.slot 48)⟩ ::
             ⟨some 50, some (40, false), .bin false .add (.slot 42) (.slot 49)⟩ ::
             ⟨some 51, some (40, false), .move (.slot 0) false⟩ ::
             ⟨some 52, some (40, false), .len (.slot 51)⟩ ::
             ⟨some 53, some (40, false), .bin false .gtr (.slot 50) (.slot 52)⟩ ::
             ⟨some 54, none, .pick (.slot 40) (.lit (.c (.d (.v (.bool true))))) (.slot 53)⟩ :: []))
            (.cond (.slot 54)
             (.seq
              (.region [⟨some 2, none, .move (.lit (.c .nilsl)) true⟩,
               ⟨some 3, none, .move (.lit (.c (.d (.v (.bool false))))) true⟩])
              .ret)
             .skip))
           (.seq
            (.region [⟨some 55, none, .move (.slot 0) false⟩,
             ⟨some 56, none, .move (.slot 5) false⟩,
             ⟨some 57, none, .indexAddr (.slot 55) (.slot 56) 1⟩,
             ⟨some 58, none, .load (.slot 57) false 1 false⟩,
             ⟨some 59, none, .conv .i64 (.slot 58)⟩,
             ⟨some 60, none, .build [.d (.v (.int .i64 0)), .nilsl] [(0, (1, .slot 59))]⟩,
             ⟨some 6, none, .alloc 13 [.d (.v (.int .i64 0)), .nilsl]⟩,
             ⟨none, none, .store (.slot 6) (.slot 60) 2⟩])
            (.seq
             (.seq
              (.region [⟨some 7, none, .move (.lit (.c (.d (.v (.int .i64 0))))) true⟩])
              (.block 2
               (.loop
                (.seq
                 (.seq
                  (.region [⟨some 61, none, .move (.slot 7) false⟩,
                   ⟨some 62, none, .move (.slot 0) false⟩,
                   ⟨some 63, none, .move (.slot 5) false⟩,
                   ⟨some 64, none, .bin false .add (.slot 63) (.lit (.c (.d (.v (.int .i64 1)))))⟩,
                   ⟨some 65, none, .indexAddr (.slot 62) (.slot 64) 1⟩,
                   ⟨some 66, none, .load (.slot 65) false 1 false⟩,
                   ⟨some 67, none, .conv .i64 (.slot 66)⟩,
                   ⟨some 68, none, .bin false .lss (.slot 61) (.slot 67)⟩])
                  (.cond (.slot 68)
                   .skip
                   (.exit 2)))
                 (.seq
                  (.block 3
                   (.draw [(1, 14)] [⟨some 71, none, .fieldAddr (.slot 6) 1⟩,
                    ⟨some 72, none, .load (.slot 71) false 1 true⟩,
                    ⟨some 73, none, .move (.slot 0) false⟩,
                    ⟨some 74, none, .move (.slot 5) false⟩,
                    ⟨some 75, none, .bin false .add (.slot 74) (.lit (.c (.d (.v (.int .i64 2)))))⟩,
                    ⟨some 76, none, .move (.slot 7) false⟩,
                    ⟨some 77, none, .bin false .mul (.lit (.c (.d (.v (.int .i64 4))))) (.slot 76)⟩,
                    ⟨some 78, none, .bin false .add (.slot 75) (.slot 77)⟩,
                    ⟨some 79, none, .move (.slot 5) false⟩,
                    ⟨some 80, none, .bin false .add (.slot 79) (.lit (.c (.d (.v (.int .i64 6)))))⟩,
                    ⟨some 81, none, .move (.slot 7) false⟩,
                    ⟨some 82, none, .bin false .mul (.lit (.c (.d (.v (.int .i64 4))))) (.slot 81)⟩,
                    ⟨some 83, none, .bin false .add (.slot 80) (.slot 82)⟩,
                    ⟨some 84, none, .slice 1 (.slot 73) (some (.slot 78)) (some (.slot 83)) none⟩,
                    ⟨some 85, none, .call 26 [.slot 84]⟩,
                    ⟨some 86, none, .buildSlice 25 1 1 [.v (.int .u32 0)] [(0, .slot 85)]⟩,
                    ⟨some 87, none, .append false 25 1 4 (.slot 72) (.slot 86)⟩,
                    ⟨some 88, none, .fieldAddr (.slot 6) 1⟩,
                    ⟨none, none, .store (.slot 88) (.slot 87) 1⟩]))
                  (.region [⟨some 69, none, .move (.slot 7) false⟩,
                   ⟨some 70, none, .bin false .add (.slot 69) (.lit (.c (.d (.v (.int .i64 1)))))⟩,
                   ⟨some 7, none, .move (.slot 70) true⟩]))))))
             (.seq
              (.region [⟨some 89, none, .move (.slot 4) true⟩,
               ⟨some 90, none, .load (.slot 6) true 2 false⟩,
               ⟨some 91, none, .buildSlice 65 2 1 [.v (.int .i64 0), .sl []] [(0, .slot 90)]⟩,
               ⟨some 92, none, .append false 65 2 32 (.slot 89) (.slot 91)⟩,
               ⟨some 4, none, .move (.slot 92) true⟩])
              (.region [⟨some 93, none, .move (.slot 5) false⟩,
               ⟨some 94, none, .bin false .add (.slot 93) (.lit (.c (.d (.v (.int .i64 2)))))⟩,
               ⟨some 95, none, .move (.slot 0) false⟩,
               ⟨some 96, none, .move (.slot 5) false⟩,
               ⟨some 97, none, .bin false .add (.slot 96) (.lit (.c (.d (.v (.int .i64 1)))))⟩,
               ⟨some 98, none, .indexAddr (.slot 95) (.slot 97) 1⟩,
               ⟨some 99, none, .load (.slot 98) false 1 false⟩,
               ⟨some 100, none, .conv .i64 (.slot 99)⟩,
               ⟨some 101, none, .bin false .mul (.lit (.c (.d (.v (.int .i64 4))))) (.slot 100)⟩,
               ⟨some 102, none, .bin false .add (.slot 94) (.slot 101)⟩,
               ⟨some 5, none, .move (.slot 102) true⟩]))))))))))
     (.seq
      (.region [⟨some 103, none, .move (.slot 4) true⟩,
       ⟨some 2, none, .move (.slot 103) true⟩,
       ⟨some 3, none, .move (.lit (.c (.d (.v (.bool true))))) true⟩])
      .ret))))

theorem F_r08_Path : Fn Try.prog 13 Try.f13 104 [72,89,103] [.t 2, .t 3] c_r08_Path where
  hm := by kernel_rfl
  hf := Try.func13
  hb := by kernel_rfl
  hc := by kernel_rfl
  hts := by kernel_rfl
  hnd := by decide
  hn := Nat.le_of_eq (by kernel_rfl)

def c_r04_Same : VC :=
  (.seq
   (.region [⟨some 4, none, .move (.lit (.c (.d (.v (.bool false))))) true⟩])
   (.seq
    (.seq
     (.region [⟨some 6, none, .move (.slot 0) false⟩,
      ⟨some 7, none, .len (.slot 6)⟩,
      ⟨some 8, none, .move (.slot 1) false⟩,
      ⟨some 9, none, .len (.slot 8)⟩,
      ⟨some 10, none, .bin false .neq (.slot 7) (.slot 9)⟩])
     (.cond (.slot 10)
      (.seq
       (.region [⟨some 4, none, .move (.lit (.c (.d (.v (.bool false))))) true⟩])
       .ret)
      .skip))
    (.seq
     (.seq
      (.region [⟨some 5, none, .move (.lit (.c (.d (.v (.int .i64 0))))) true⟩])
      (.block 0
       (.loop
        (.seq
         (.seq
          (.region [⟨some 11, none, .move (.slot 5) false⟩,
           ⟨some 12, none, .move (.slot 0) false⟩,
           ⟨some 13, none, .len (.slot 12)⟩,
           ⟨some 14, none, .bin false .lss (.slot 11) (.slot 13)⟩])
          (.cond (.slot 14)
           .skip
           (.exit 0)))
         (.seq
          (.block 1
           (.seq
            (.draw [] [⟨some 17, none, .move (.slot 0) false⟩,
             ⟨some 18, none, .move (.slot 5) false⟩,
             ⟨some 19, none, .indexAddr (.slot 17) (.slot 18) 2⟩,
             ⟨some 20, none, .fieldAddr (.slot 19) 0⟩,
             ⟨some 21, none, .load (.slot 20) false 1 false⟩,
             ⟨some 22, none, .move (.slot 1) false⟩,
             ⟨some 23, none, .move (.slot 5) false⟩,
             ⟨some 24, none, .indexAddr (.slot 22) (.slot 23) 2⟩,
             ⟨some 25, none, .fieldAddr (.slot 24) 0⟩,
             ⟨some 26, none, .load (.slot 25) false 1 false⟩,
             ⟨some 27, none, .bin false .neq (.slot 21) (.slot 26)⟩,
             ⟨some 28, none, .move (.slot 27) false⟩,
             ⟨some 29, some (28, false), .move (.slot 0) false⟩,
             ⟨some 30, some (28, false), .move (.slot 5) false⟩,
             ⟨some 31, some (28, false), .indexAddr (.slot 29) (.slot 30) 2⟩,
             ⟨some 32, some (28, false), .fieldAddr (.slot 31) 1⟩,
             ⟨some 33, some (28, false), .load (.slot 32) false 1 false⟩,
             ⟨some 34, some (28, false), .move (.slot 1) false⟩,
             ⟨some 35, some (28, false), .move (.slot 5) false⟩,
             ⟨some 36, some (28, false), .indexAddr (.slot 34) (.slot 35) 2⟩,
             ⟨some 37, some (28, false), .fieldAddr (.slot 36) 1⟩,
             ⟨some 38, some (28, false), .load (.slot 37) false 1 false⟩,
             ⟨some 39, some (28, false), .call 31 [.slot 33, .slot 38]⟩,
             ⟨some 40, some (28, false), .un .not (.slot 39)⟩,
             ⟨some 41, none, .pick (.slot 28) (.lit (.c (.d (.v (.bool true))))) (.slot 40)⟩])
            (.cond (.slot 41)
             (.seq
              (.region [⟨some 4, none, .move (.lit (.c (.d (.v (.bool false))))) true⟩])
              .ret)
             .skip)))
          (.region [⟨some 15, none, .move (.slot 5) false⟩,
           ⟨some 16, none, .bin false .add (.slot 15) (.lit (.c (.d (.v (.int .i64 1)))))⟩,
           ⟨some 5, none, .move (.slot 16) true⟩]))))))
     (.seq
      (.region [⟨some 4, none, .move (.lit (.c (.d (.v (.bool true))))) true⟩])
      .ret))))

theorem F_r04_Same : Fn Try.prog 14 Try.f14 42 [] [.t 4] c_r04_Same where
  hm := by kernel_rfl
  hf := Try.func14
  hb := by kernel_rfl
  hc := by kernel_rfl
  hts := by kernel_rfl
  hnd := by decide
  hn := Nat.le_of_eq (by kernel_rfl)

def c_l08_Few : VC :=
  (.seq
   (.region [⟨some 1, none, .box 3 9 (.slot 0)⟩,
    ⟨some 2, none, .alloc 5 [.d (.v (.int .i64 0)), .d (.v (.int .i64 0)), .nilsl, .d (.v (.int .u32 0)), .d (.v (.int .u32 0)), .d (.v (.int .u32 0)), .d (.v (.int .u32 0)), .d (.v (.int .u32 0)), .nilsl]⟩])
   (.seq
    (.draw [(2, 4)] [⟨some 3, none, .fieldAddr (.slot 1) 2⟩,
     ⟨some 4, none, .load (.slot 3) false 1 false⟩,
     ⟨some 5, none, .call 33 [.slot 4]⟩,
     ⟨some 6, none, .fieldAddr (.slot 1) 8⟩,
     ⟨some 7, none, .load (.slot 6) false 1 false⟩,
     ⟨some 8, none, .call 34 [.slot 7, .lit (.c (.d (.v (.int .i64 260))))]⟩,
     ⟨some 9, none, .fieldAddr (.slot 1) 2⟩,
     ⟨none, none, .store (.slot 9) (.slot 5) 1⟩,
     ⟨some 10, none, .fieldAddr (.slot 1) 8⟩,
     ⟨none, none, .store (.slot 10) (.slot 8) 1⟩])
    (.seq
     (.region [⟨some 11, none, .load (.slot 1) true 9 false⟩,
      ⟨none, none, .store (.slot 2) (.slot 11) 9⟩])
     .ret)))

theorem F_l08_Few : Fn Try.prog 15 Try.f15 12 [] [.cell 2 true 9] c_l08_Few where
  hm := by kernel_rfl
  hf := Try.func15
  hb := by kernel_rfl
  hc := by kernel_rfl
  hts := by kernel_rfl
  hnd := by decide
  hn := Nat.le_of_eq (by kernel_rfl)

def c_attr_Encode : VC :=
  (.seq
   (.region [⟨some 1, none, .box 3 9 (.slot 0)⟩,
    ⟨some 2, none, .move (.lit (.c .nilsl)) true⟩,
    ⟨some 3, none, .move (.lit (.c (.d (.v (.int .i64 0))))) true⟩])
   (.seq
    (.seq
     (.region [⟨some 4, none, .load (.slot 1) true 9 false⟩,
      ⟨some 5, none, .call 35 [.slot 4]⟩,
      ⟨some 6, none, .un .not (.slot 5)⟩])
     (.cond (.slot 6)
      (.seq
       (.region [⟨some 2, none, .move (.lit (.c .nilsl)) true⟩,
        ⟨some 3, none, .move (.lit (.c (.d (.v (.int .i64 1))))) true⟩])
       .ret)
      .skip))
    (.seq
     (.region [⟨some 7, none, .load (.slot 1) true 9 false⟩,
      ⟨some 8, none, .call 36 [.slot 7]⟩,
      ⟨some 2, none, .move (.slot 8) true⟩,
      ⟨some 3, none, .move (.lit (.c (.d (.v (.int .i64 0))))) true⟩])
     .ret)))

theorem F_attr_Encode : Fn Try.prog 16 Try.f16 9 [] [.t 2, .t 3] c_attr_Encode where
  hm := by kernel_rfl
  hf := Try.func16
  hb := by kernel_rfl
  hc := by kernel_rfl
  hts := by kernel_rfl
  hnd := by decide
  hn := Nat.le_of_eq (by kernel_rfl)

def c_r08_Good : VC :=
  (.seq
   (.region [⟨some 1, none, .box 3 9 (.slot 0)⟩,
    ⟨some 2, none, .move (.lit (.c (.d (.v (.bool false))))) true⟩])
   (.seq
    (.draw [(1, 2)] (⟨some 3, none, .load (.slot 1) true 9 false⟩ ::
     ⟨some 4, none, .call 30 [.slot 3]⟩ ::
     ⟨some 5, none, .load (.slot 1) true 9 false⟩ ::
     ⟨some 6, none, .call 9 [.slot 4, .slot 5]⟩ ::
     ⟨some 7, none, .move (.slot 6) false⟩ ::
     ⟨some 8, some (7, true), .fieldAddr (.slot 1) 1⟩ ::
     ⟨some 9, some (7, true), .load (.slot 8) false 1 false⟩ ::
     ⟨some 10, some (7, true), .bin false .geq (.slot 9) (.lit (.c (.d (.v (.int .i64 0)))))⟩ ::
     ⟨some 11, none, .pick (.slot 7) (.slot 10) (.lit (.c (.d (.v (.bool false)))))⟩ ::
     ⟨some 12, none, .move (.slot 11) false⟩ ::
     ⟨some 13, some (12, true), .fieldAddr (.slot 1) 1⟩ ::
     ⟨some 14, some (12, true), .load (.slot 13) false 1 false⟩ ::
     ⟨some 15, some (12, true), .bin false .leq (.slot 14) (.lit (.c (.d (.v (.int .i64 2)))))⟩ ::
     ⟨some 16, none, .pick (.slot 12) (.slot 15) (.lit (.c (.d (.v (.bool false)))))⟩ ::
     ⟨some 17, none, .move (.slot 16) false⟩ ::
     ⟨some 18, some (17, true), .fieldAddr (.slot 1) 2⟩ ::
     ⟨some 19, some (17, true), .load (.slot 18) false 1 false⟩ ::
     ⟨some 20, some (17, true), .call 37 [.slot 19]⟩ ::
     ⟨some 21, none, .pick (.slot 17) (.slot 20) (.lit (.c (.d (.v (.bool false)))))⟩ ::
     ⟨some 22, none, .move (.slot 21) false⟩ ::
     ⟨some 23, some (22, true), .load (.slot 1) true 9 false⟩ ::
     ⟨some 24, some (22, true), .call 38 [.slot 23, .lit (.c (.d (.v (.int .i64 3))))]⟩ ::
     ⟨some 25, some (22, true), .un .not (.slot 24)⟩ ::
     ⟨some 26, some (22, true), .move (.slot 25) false⟩ ::
     ⟨some 27, some (26, false), .fieldAddr (.slot 1) 3⟩ ::
     ⟨some 28, some (26, false), .load (.slot 27) false 1 false⟩ ::
     ⟨some 29, some (26, false), .call 39 [.slot 28]⟩ ::
     ⟨some 30, some (22, true), .pick (.slot 26) (.lit (.c (.d (.v (.bool true))))) (.slot 29)⟩ ::
     ⟨some 31, none, .pick (.slot 22) (.slot 30) (.lit (.c (.d (.v (.bool false)))))⟩ ::
     ⟨some 32, none, .move (.slot 31) false⟩ ::
     ⟨some 33, some (32, true), .fieldAddr (.slot 1) 8⟩ ::
     ⟨some 34, some (32, true), .load (.slot 33) false 1 false⟩ ::
     ⟨some 35, some (32, true), .len (.slot 34)⟩ ::
     ⟨some 36, some (32, true), .bin false .leq (.slot 35) (.lit (.c (.d (.v (.int .i64 255)))))⟩ ::
     ⟨some 37, none, .pick (.slot 32) (.slot 36) (.lit (.c (.d (.v (.bool false)))))⟩ ::
     ⟨some 2, none, .move (.slot 37) true⟩ :: []))
    .ret))

theorem F_r08_Good : Fn Try.prog 17 Try.f17 38 [] [.t 2] c_r08_Good where
  hm := by kernel_rfl
  hf := Try.func17
  hb := by kernel_rfl
  hc := by kernel_rfl
  hts := by kernel_rfl
  hnd := by decide
  hn := Nat.le_of_eq (by kernel_rfl)

def c_attr_Size : VC :=
  (.seq
   (.region [⟨some 1, none, .box 3 9 (.slot 0)⟩,
    ⟨some 2, none, .move (.lit (.c (.d (.v (.int .i64 0))))) true⟩])
   (.seq
    (.seq
     (.region [⟨some 3, none, .load (.slot 1) true 9 false⟩,
      ⟨some 4, none, .call 35 [.slot 3]⟩,
      ⟨some 5, none, .un .not (.slot 4)⟩])
     (.cond (.slot 5)
      (.seq
       (.region [⟨some 2, none, .move (.lit (.c (.d (.v (.int .i64 0))))) true⟩])
       .ret)
      .skip))
    (.seq
     (.region [⟨some 6, none, .load (.slot 1) true 9 false⟩,
      ⟨some 7, none, .call 36 [.slot 6]⟩,
      ⟨some 8, none, .len (.slot 7)⟩,
      ⟨some 2, none, .move (.slot 8) true⟩])
     .ret)))

theorem F_attr_Size : Fn Try.prog 18 Try.f18 9 [] [.t 2] c_attr_Size where
  hm := by kernel_rfl
  hf := Try.func18
  hb := by kernel_rfl
  hc := by kernel_rfl
  hts := by kernel_rfl
  hnd := by decide
  hn := Nat.le_of_eq (by kernel_rfl)

def c_r08_Encode : VC :=
  (.seq
   (.region [⟨some 1, none, .box 3 9 (.slot 0)⟩,
    ⟨some 2, none, .move (.lit (.c .nilsl)) true⟩])
   (.seq
    (.region [⟨some 6, none, .buildSlice 5 1 0 [.v (.int .u8 0)] []⟩,
     ⟨some 3, none, .move (.slot 6) true⟩])
    (.seq
     (.seq
      (.region [⟨some 4, none, .move (.lit (.c (.d (.v (.int .i64 1))))) true⟩])
      (.block 0
       (.loop
        (.seq
         (.seq
          (.region [⟨some 7, none, .move (.slot 4) false⟩,
           ⟨some 8, none, .bin false .leq (.slot 7) (.lit (.c (.d (.v (.int .i64 8)))))⟩])
          (.cond (.slot 8)
           .skip
           (.exit 0)))
         (.seq
          (.block 1
           (.seq
            (.seq
             (.region [⟨some 11, none, .load (.slot 1) true 9 false⟩,
              ⟨some 12, none, .move (.slot 4) false⟩,
              ⟨some 13, none, .call 38 [.slot 11, .slot 12]⟩,
              ⟨some 14, none, .un .not (.slot 13)⟩])
             (.cond (.slot 14)
              (.exit 1)
              .skip))
            (.seq
             (.region [⟨some 15, none, .load (.slot 1) true 9 false⟩,
              ⟨some 16, none, .move (.slot 4) false⟩,
              ⟨some 17, none, .call 40 [.slot 15, .slot 16]⟩,
              ⟨some 5, none, .move (.slot 17) true⟩])
             (.seq
              (.seq
               (.region [⟨some 18, none, .move (.slot 5) false⟩,
                ⟨some 19, none, .len (.slot 18)⟩,
                ⟨some 20, none, .bin false .gtr (.slot 19) (.lit (.c (.d (.v (.int .i64 255)))))⟩])
               (.cond (.slot 20)
                (.region [⟨some 21, none, .move (.slot 3) true⟩,
                 ⟨some 22, none, .move (.slot 4) false⟩,
                 ⟨some 23, none, .call 27 [.slot 22]⟩,
                 ⟨some 24, none, .bin false .add (.slot 23) (.lit (.c (.d (.v (.int .i64 16)))))⟩,
                 ⟨some 25, none, .conv .u8 (.slot 24)⟩,
                 ⟨some 26, none, .move (.slot 4) false⟩,
                 ⟨some 27, none, .conv .u8 (.slot 26)⟩,
                 ⟨some 28, none, .buildSlice 5 1 2 [.v (.int .u8 0)] [(0, .slot 25), (1, .slot 27)]⟩,
                 ⟨some 29, none, .append false 5 1 1 (.slot 21) (.slot 28)⟩,
                 ⟨some 30, none, .move (.slot 5) false⟩,
                 ⟨some 31, none, .len (.slot 30)⟩,
                 ⟨some 32, none, .conv .u64 (.slot 31)⟩,
                 ⟨some 33, none, .call 41 [.slot 32, .lit (.c (.d (.v (.int .i64 2))))]⟩,
                 ⟨some 34, none, .append false 5 1 1 (.slot 29) (.slot 33)⟩,
                 ⟨some 3, none, .move (.slot 34) true⟩])
                (.region [⟨some 35, none, .move (.slot 3) true⟩,
                 ⟨some 36, none, .move (.slot 4) false⟩,
                 ⟨some 37, none, .call 27 [.slot 36]⟩,
                 ⟨some 38, none, .conv .u8 (.slot 37)⟩,
                 ⟨some 39, none, .move (.slot 4) false⟩,
                 ⟨some 40, none, .conv .u8 (.slot 39)⟩,
                 ⟨some 41, none, .move (.slot 5) false⟩,
                 ⟨some 42, none, .len (.slot 41)⟩,
                 ⟨some 43, none, .conv .u8 (.slot 42)⟩,
                 ⟨some 44, none, .buildSlice 5 1 3 [.v (.int .u8 0)] [(0, .slot 38), (1, .slot 40), (2, .slot 43)]⟩,
                 ⟨some 45, none, .append false 5 1 1 (.slot 35) (.slot 44)⟩,
                 ⟨some 3, none, .move (.slot 45) true⟩])))
              (.region [⟨some 46, none, .move (.slot 3) true⟩,
               ⟨some 47, none, .move (.slot 5) false⟩,
               ⟨some 48, none, .append false 5 1 1 (.slot 46) (.slot 47)⟩,
               ⟨some 3, none, .move (.slot 48) true⟩])))))
          (.region [⟨some 9, none, .move (.slot 4) false⟩,
           ⟨some 10, none, .bin false .add (.slot 9) (.lit (.c (.d (.v (.int .i64 1)))))⟩,
           ⟨some 4, none, .move (.slot 10) true⟩]))))))
     (.seq
      (.region [⟨some 49, none, .move (.slot 3) true⟩,
       ⟨some 2, none, .move (.slot 49) true⟩])
      .ret))))

theorem F_r08_Encode : Fn Try.prog 19 Try.f19 50 [21,35,46,49] [.t 2] c_r08_Encode where
  hm := by kernel_rfl
  hf := Try.func19
  hb := by kernel_rfl
  hc := by kernel_rfl
  hts := by kernel_rfl
  hnd := by decide
  hn := Nat.le_of_eq (by kernel_rfl)

def c_octet_New : VC :=
  (.seq
   (.region [⟨some 2, none, .move (.lit (.c (.d (.v (.pointer none))))) true⟩])
   (.seq
    (.region [⟨some 3, none, .move (.slot 0) false⟩,
     ⟨some 4, none, .call 42 [.slot 3]⟩,
     ⟨some 5, none, .build [.nilsl, .d (.v (.bool false))] [(0, (1, .slot 4))]⟩,
     ⟨some 6, none, .box 13 2 (.slot 5)⟩,
     ⟨some 2, none, .move (.slot 6) true⟩])
    .ret))

theorem F_octet_New : Fn Try.prog 20 Try.f20 7 [] [.t 2] c_octet_New where
  hm := by kernel_rfl
  hf := Try.func20
  hb := by kernel_rfl
  hc := by kernel_rfl
  hts := by kernel_rfl
  hnd := by decide
  hn := Nat.le_of_eq (by kernel_rfl)

def c_octet_Reader_Left : VC :=
  (.seq
   (.region [⟨some 2, none, .move (.lit (.c (.d (.v (.int .i64 0))))) true⟩])
   (.seq
    (.region [⟨some 3, none, .move (.slot 0) false⟩,
     ⟨some 4, none, .call 43 [.slot 3]⟩,
     ⟨some 2, none, .move (.slot 4) true⟩])
    .ret))

theorem F_octet_Reader_Left : Fn Try.prog 21 Try.f21 5 [] [.t 2] c_octet_Reader_Left where
  hm := by kernel_rfl
  hf := Try.func21
  hb := by kernel_rfl
  hc := by kernel_rfl
  hts := by kernel_rfl
  hnd := by decide
  hn := Nat.le_of_eq (by kernel_rfl)

def c_attr_next : VC :=
  (.seq
   (.region [⟨some 2, none, .alloc 5 [.d (.v (.int .i64 0)), .d (.v (.int .i64 0)), .nilsl, .nilsl]⟩,
    ⟨some 3, none, .move (.lit (.c (.d (.v (.bool false))))) true⟩])
   (.seq
    (.region [⟨some 7, none, .build [.nilsl] []⟩,
     ⟨some 8, none, .box 17 1 (.slot 7)⟩,
     ⟨some 4, none, .move (.slot 8) true⟩])
    (.seq
     (.region [⟨some 9, none, .move (.slot 0) false⟩,
      ⟨some 10, none, .call 44 [.slot 9]⟩,
      ⟨some 11, none, .move (.slot 0) false⟩,
      ⟨some 12, none, .call 44 [.slot 11]⟩,
      ⟨some 13, none, .build [.d (.v (.int .i64 0)), .d (.v (.int .i64 0)), .nilsl, .nilsl] [(0, (1, .slot 10)), (1, (1, .slot 12))]⟩,
      ⟨some 5, none, .alloc 11 [.d (.v (.int .i64 0)), .d (.v (.int .i64 0)), .nilsl, .nilsl]⟩,
      ⟨none, none, .store (.slot 5) (.slot 13) 4⟩])
     (.seq
      (.draw [(3, 5)] [⟨some 14, none, .move (.slot 4) false⟩,
       ⟨some 15, none, .fieldAddr (.slot 5) 0⟩,
       ⟨some 16, none, .load (.slot 15) false 1 false⟩,
       ⟨some 17, none, .call 45 [.slot 14, .slot 16]⟩,
       ⟨some 18, none, .fieldAddr (.slot 5) 1⟩,
       ⟨some 19, none, .load (.slot 18) false 1 false⟩,
       ⟨some 20, none, .call 45 [.slot 17, .slot 19]⟩])
      (.seq
       (.region [⟨some 6, none, .move (.lit (.c (.d (.v (.int .i64 0))))) true⟩])
       (.seq
        (.seq
         (.region [⟨some 21, none, .fieldAddr (.slot 5) 0⟩,
          ⟨some 22, none, .load (.slot 21) false 1 false⟩,
          ⟨some 23, none, .bin false .and (.slot 22) (.lit (.c (.d (.v (.int .i64 16)))))⟩,
          ⟨some 24, none, .bin false .neq (.slot 23) (.lit (.c (.d (.v (.int .i64 0)))))⟩])
         (.cond (.slot 24)
          (.seq
           (.region [⟨some 25, none, .move (.slot 0) false⟩,
            ⟨some 26, none, .call 46 [.slot 25]⟩,
            ⟨some 6, none, .move (.slot 26) true⟩])
           (.region [⟨some 27, none, .move (.slot 4) false⟩,
            ⟨some 28, none, .move (.slot 6) false⟩,
            ⟨some 29, none, .call 47 [.slot 27, .slot 28]⟩]))
          (.seq
           (.region [⟨some 30, none, .move (.slot 0) false⟩,
            ⟨some 31, none, .call 44 [.slot 30]⟩,
            ⟨some 6, none, .move (.slot 31) true⟩])
           (.region [⟨some 32, none, .move (.slot 4) false⟩,
            ⟨some 33, none, .move (.slot 6) false⟩,
            ⟨some 34, none, .call 45 [.slot 32, .slot 33]⟩]))))
        (.seq
         (.region [⟨some 35, none, .move (.slot 0) false⟩,
          ⟨some 36, none, .move (.slot 6) false⟩,
          ⟨some 37, none, .call 48 [.slot 35, .slot 36]⟩,
          ⟨some 38, none, .fieldAddr (.slot 5) 2⟩,
          ⟨none, none, .store (.slot 38) (.slot 37) 1⟩])
         (.seq
          (.region [⟨some 39, none, .move (.slot 4) false⟩,
           ⟨some 40, none, .fieldAddr (.slot 5) 2⟩,
           ⟨some 41, none, .load (.slot 40) false 1 false⟩,
           ⟨some 42, none, .call 49 [.slot 39, .slot 41]⟩,
           ⟨some 43, none, .call 50 [.slot 42]⟩,
           ⟨some 44, none, .fieldAddr (.slot 5) 3⟩,
           ⟨none, none, .store (.slot 44) (.slot 43) 1⟩])
          (.seq
           (.draw [(0, 2)] [⟨some 45, none, .load (.slot 5) true 4 false⟩,
            ⟨some 46, none, .move (.slot 0) false⟩,
            ⟨some 47, none, .call 51 [.slot 46]⟩,
            ⟨some 48, none, .un .not (.slot 47)⟩,
            ⟨none, none, .store (.slot 2) (.slot 45) 4⟩,
            ⟨some 3, none, .move (.slot 48) true⟩])
           .ret)))))))))

theorem F_attr_next : Fn Try.prog 22 Try.f22 49 [] [.cell 2 true 4, .t 3] c_attr_next where
  hm := by kernel_rfl
  hf := Try.func22
  hb := by kernel_rfl
  hc := by kernel_rfl
  hts := by kernel_rfl
  hnd := by decide
  hn := Nat.le_of_eq (by kernel_rfl)

def c_attr_notice : VC :=
  (.seq
   (.region [⟨some 4, none, .alloc 9 [.d (.v (.int .i64 0)), .d (.v (.int .i64 0)), .nilsl]⟩])
   (.seq
    (.seq
     (.region [⟨some 5, none, .move (.slot 0) false⟩,
      ⟨some 6, none, .bin false .eql (.slot 5) (.lit (.c (.d (.v (.int .i64 1)))))⟩,
      ⟨some 7, none, .move (.slot 6) false⟩,
      ⟨some 8, some (7, false), .move (.slot 0) false⟩,
      ⟨some 9, some (7, false), .bin false .eql (.slot 8) (.lit (.c (.d (.v (.int .i64 11)))))⟩,
      ⟨some 10, none, .pick (.slot 7) (.lit (.c (.d (.v (.bool true))))) (.slot 9)⟩])
     (.cond (.slot 10)
      (.region [⟨some 1, none, .move (.lit (.c .nilsl)) true⟩])
      .skip))
    (.seq
     (.region [⟨some 11, none, .move (.slot 0) false⟩,
      ⟨some 12, none, .move (.slot 1) false⟩,
      ⟨some 13, none, .build [.d (.v (.int .i64 0)), .d (.v (.int .i64 0)), .nilsl] [(0, (1, .lit (.c (.d (.v (.int .i64 3)))))), (1, (1, .slot 11)), (2, (1, .slot 12))]⟩,
      ⟨none, none, .store (.slot 4) (.slot 13) 3⟩])
     .ret)))

theorem F_attr_notice : Fn Try.prog 23 Try.f23 14 [] [.cell 4 true 3] c_attr_notice where
  hm := by kernel_rfl
  hf := Try.func23
  hb := by kernel_rfl
  hc := by kernel_rfl
  hts := by kernel_rfl
  hnd := by decide
  hn := Nat.le_of_eq (by kernel_rfl)

def c_attr_wrong : VC :=
  (.seq
   (.region [⟨some 2, none, .box 5 4 (.slot 0)⟩,
    ⟨some 4, none, .move (.lit (.c (.d (.v (.int .i64 0))))) true⟩])
   (.seq
    (.region [⟨some 7, none, .fieldAddr (.slot 2) 1⟩,
     ⟨some 8, none, .load (.slot 7) false 1 false⟩,
     ⟨some 9, none, .call 52 [.slot 8]⟩,
     ⟨some 10, none, .bin false .neq (.slot 9) (.lit (.c (.d (.v (.int .i64 0)))))⟩,
     ⟨some 5, none, .move (.slot 10) true⟩])
    (.seq
     (.block 0
      (.seq
       (.region [⟨some 12, none, .move (.slot 5) false⟩,
        ⟨some 13, none, .un .not (.slot 12)⟩,
        ⟨some 14, none, .move (.slot 13) false⟩,
        ⟨some 15, some (14, true), .fieldAddr (.slot 2) 0⟩,
        ⟨some 16, some (14, true), .load (.slot 15) false 1 false⟩,
        ⟨some 17, some (14, true), .bin false .and (.slot 16) (.lit (.c (.d (.v (.int .i64 128)))))⟩,
        ⟨some 18, some (14, true), .bin false .eql (.slot 17) (.lit (.c (.d (.v (.int .i64 0)))))⟩,
        ⟨some 19, none, .pick (.slot 14) (.slot 18) (.lit (.c (.d (.v (.bool false)))))⟩,
        ⟨some 11, none, .move (.slot 19) true⟩])
       (.cond (.slot 11)
        (.seq
         (.region [⟨some 4, none, .move (.lit (.c (.d (.v (.int .i64 2))))) true⟩])
         .ret)
        (.seq
         (.region [⟨some 21, none, .move (.slot 5) false⟩,
          ⟨some 22, none, .un .not (.slot 21)⟩,
          ⟨some 20, none, .move (.slot 22) true⟩])
         (.cond (.slot 20)
          (.seq
           (.region [⟨some 4, none, .move (.lit (.c (.d (.v (.int .i64 0))))) true⟩])
           .ret)
          (.seq
           (.region [⟨some 24, none, .load (.slot 2) true 4 false⟩,
            ⟨some 25, none, .call 53 [.slot 24]⟩,
            ⟨some 26, none, .un .not (.slot 25)⟩,
            ⟨some 23, none, .move (.slot 26) true⟩])
           (.cond (.slot 23)
            (.seq
             (.region [⟨some 4, none, .move (.lit (.c (.d (.v (.int .i64 4))))) true⟩])
             .ret)
            (.seq
             (.region [⟨some 28, none, .load (.slot 2) true 4 false⟩,
              ⟨some 29, none, .call 54 [.slot 28]⟩,
              ⟨some 30, none, .un .not (.slot 29)⟩,
              ⟨some 27, none, .move (.slot 30) true⟩])
             (.cond (.slot 27)
              (.seq
               (.region [⟨some 4, none, .move (.lit (.c (.d (.v (.int .i64 5))))) true⟩])
               .ret)
              .skip)))))))))
     (.seq
      (.seq
       (.region [⟨some 31, none, .load (.slot 2) true 4 false⟩,
        ⟨some 32, none, .move (.slot 1) false⟩,
        ⟨some 33, none, .call 55 [.slot 31, .slot 32]⟩,
        ⟨some 6, none, .move (.slot 33) true⟩])
       (.seq
        (.region [⟨some 34, none, .move (.slot 6) false⟩,
         ⟨some 35, none, .bin false .neq (.slot 34) (.lit (.c (.d (.v (.int .i64 0)))))⟩])
        (.cond (.slot 35)
         (.seq
          (.region [⟨some 36, none, .move (.slot 6) true⟩,
           ⟨some 4, none, .move (.slot 36) true⟩])
          .ret)
         .skip)))
      (.seq
       (.draw [] [⟨some 37, none, .move (.slot 1) false⟩,
        ⟨some 38, none, .nilCheck (.slot 37)⟩,
        ⟨some 39, none, .fieldAddr (.slot 38) 0⟩,
        ⟨some 40, none, .load (.slot 39) false 1 false⟩,
        ⟨some 41, none, .fieldAddr (.slot 2) 1⟩,
        ⟨some 42, none, .load (.slot 41) false 1 false⟩,
        ⟨some 43, none, .bin false .shl (.lit (.c (.d (.v (.int .i64 1))))) (.slot 42)⟩,
        ⟨some 44, none, .bin false .or (.slot 40) (.slot 43)⟩,
        ⟨some 45, none, .nilCheck (.slot 37)⟩,
        ⟨some 46, none, .fieldAddr (.slot 45) 0⟩,
        ⟨none, none, .store (.slot 46) (.slot 44) 1⟩])
       (.seq
        (.region [⟨some 4, none, .move (.lit (.c (.d (.v (.int .i64 0))))) true⟩])
        .ret))))))

theorem F_attr_wrong : Fn Try.prog 24 Try.f24 47 [36] [.t 4] c_attr_wrong where
  hm := by kernel_rfl
  hf := Try.func24
  hb := by kernel_rfl
  hc := by kernel_rfl
  hts := by kernel_rfl
  hnd := by decide
  hn := Nat.le_of_eq (by kernel_rfl)

def c_attr_norm : VC :=
  (.seq
   (.region [⟨some 1, none, .box 3 9 (.slot 0)⟩,
    ⟨some 2, none, .alloc 5 [.d (.v (.int .i64 0)), .d (.v (.int .i64 0)), .nilsl, .d (.v (.int .u32 0)), .d (.v (.int .u32 0)), .d (.v (.int .u32 0)), .d (.v (.int .u32 0)), .d (.v (.int .u32 0)), .nilsl]⟩])
   (.seq
    (.region [⟨some 4, none, .fieldAddr (.slot 1) 0⟩,
     ⟨some 5, none, .load (.slot 4) false 1 false⟩,
     ⟨some 6, none, .bin false .and (.slot 5) (.lit (.c (.d (.v (.int .i64 510)))))⟩,
     ⟨some 7, none, .build [.d (.v (.int .i64 0)), .d (.v (.int .i64 0)), .nilsl, .d (.v (.int .u32 0)), .d (.v (.int .u32 0)), .d (.v (.int .u32 0)), .d (.v (.int .u32 0)), .d (.v (.int .u32 0)), .nilsl] [(0, (1, .slot 6))]⟩,
     ⟨some 3, none, .alloc 7 [.d (.v (.int .i64 0)), .d (.v (.int .i64 0)), .nilsl, .d (.v (.int .u32 0)), .d (.v (.int .u32 0)), .d (.v (.int .u32 0)), .d (.v (.int .u32 0)), .d (.v (.int .u32 0)), .nilsl]⟩,
     ⟨none, none, .store (.slot 3) (.slot 7) 9⟩])
    (.seq
     (.seq
      (.region [⟨some 8, none, .load (.slot 1) true 9 false⟩,
       ⟨some 9, none, .call 56 [.slot 8, .lit (.c (.d (.v (.int .i64 1))))]⟩])
      (.cond (.slot 9)
       (.region [⟨some 10, none, .fieldAddr (.slot 1) 1⟩,
        ⟨some 11, none, .load (.slot 10) false 1 false⟩,
        ⟨some 12, none, .fieldAddr (.slot 3) 1⟩,
        ⟨none, none, .store (.slot 12) (.slot 11) 1⟩])
       .skip))
     (.seq
      (.seq
       (.region [⟨some 13, none, .load (.slot 1) true 9 false⟩,
        ⟨some 14, none, .call 56 [.slot 13, .lit (.c (.d (.v (.int .i64 2))))]⟩])
       (.cond (.slot 14)
        (.region [⟨some 15, none, .fieldAddr (.slot 1) 2⟩,
         ⟨some 16, none, .load (.slot 15) false 1 false⟩,
         ⟨some 17, none, .call 57 [.slot 16]⟩,
         ⟨some 18, none, .fieldAddr (.slot 3) 2⟩,
         ⟨none, none, .store (.slot 18) (.slot 17) 1⟩])
        .skip))
      (.seq
       (.seq
        (.region [⟨some 19, none, .load (.slot 1) true 9 false⟩,
         ⟨some 20, none, .call 56 [.slot 19, .lit (.c (.d (.v (.int .i64 3))))]⟩])
        (.cond (.slot 20)
         (.region [⟨some 21, none, .fieldAddr (.slot 1) 3⟩,
          ⟨some 22, none, .load (.slot 21) false 1 false⟩,
          ⟨some 23, none, .fieldAddr (.slot 3) 3⟩,
          ⟨none, none, .store (.slot 23) (.slot 22) 1⟩])
         .skip))
       (.seq
        (.seq
         (.region [⟨some 24, none, .load (.slot 1) true 9 false⟩,
          ⟨some 25, none, .call 56 [.slot 24, .lit (.c (.d (.v (.int .i64 4))))]⟩])
         (.cond (.slot 25)
          (.region [⟨some 26, none, .fieldAddr (.slot 1) 4⟩,
           ⟨some 27, none, .load (.slot 26) false 1 false⟩,
           ⟨some 28, none, .fieldAddr (.slot 3) 4⟩,
           ⟨none, none, .store (.slot 28) (.slot 27) 1⟩])
          .skip))
        (.seq
         (.seq
          (.region [⟨some 29, none, .load (.slot 1) true 9 false⟩,
           ⟨some 30, none, .call 56 [.slot 29, .lit (.c (.d (.v (.int .i64 5))))]⟩])
          (.cond (.slot 30)
           (.region [⟨some 31, none, .fieldAddr (.slot 1) 5⟩,
            ⟨some 32, none, .load (.slot 31) false 1 false⟩,
            ⟨some 33, none, .fieldAddr (.slot 3) 5⟩,
            ⟨none, none, .store (.slot 33) (.slot 32) 1⟩])
           .skip))
         (.seq
          (.seq
           (.region [⟨some 34, none, .load (.slot 1) true 9 false⟩,
            ⟨some 35, none, .call 56 [.slot 34, .lit (.c (.d (.v (.int .i64 7))))]⟩])
           (.cond (.slot 35)
            (.draw [(3, 5)] [⟨some 36, none, .fieldAddr (.slot 1) 6⟩,
             ⟨some 37, none, .load (.slot 36) false 1 false⟩,
             ⟨some 38, none, .fieldAddr (.slot 1) 7⟩,
             ⟨some 39, none, .load (.slot 38) false 1 false⟩,
             ⟨some 40, none, .fieldAddr (.slot 3) 6⟩,
             ⟨none, none, .store (.slot 40) (.slot 37) 1⟩,
             ⟨some 41, none, .fieldAddr (.slot 3) 7⟩,
             ⟨none, none, .store (.slot 41) (.slot 39) 1⟩])
            .skip))
          (.seq
           (.seq
            (.region [⟨some 42, none, .load (.slot 1) true 9 false⟩,
             ⟨some 43, none, .call 56 [.slot 42, .lit (.c (.d (.v (.int .i64 8))))]⟩])
            (.cond (.slot 43)
             (.region [⟨some 44, none, .fieldAddr (.slot 1) 8⟩,
              ⟨some 45, none, .load (.slot 44) false 1 false⟩,
              ⟨some 46, none, .call 58 [.slot 45]⟩,
              ⟨some 47, none, .fieldAddr (.slot 3) 8⟩,
              ⟨none, none, .store (.slot 47) (.slot 46) 1⟩])
             .skip))
           (.seq
            (.region [⟨some 48, none, .load (.slot 3) true 9 false⟩,
             ⟨none, none, .store (.slot 2) (.slot 48) 9⟩])
            .ret))))))))))

theorem F_attr_norm : Fn Try.prog 25 Try.f25 49 [] [.cell 2 true 9] c_attr_norm where
  hm := by kernel_rfl
  hf := Try.func25
  hb := by kernel_rfl
  hc := by kernel_rfl
  hts := by kernel_rfl
  hnd := by decide
  hn := Nat.le_of_eq (by kernel_rfl)

def c_r06_Num : VC :=
  (.seq
   (.region [⟨some 2, none, .move (.lit (.c (.d (.v (.int .u32 0))))) true⟩])
   (.seq
    (.region [⟨some 3, none, .move (.lit (.c (.d (.v (.int .u32 0))))) true⟩])
    (.seq
     (.seq
      (.region [⟨some 4, none, .move (.lit (.c (.d (.v (.int .i64 0))))) true⟩])
      (.block 0
       (.loop
        (.seq
         (.seq
          (.region [⟨some 5, none, .move (.slot 4) false⟩,
           ⟨some 6, none, .move (.slot 0) false⟩,
           ⟨some 7, none, .len (.slot 6)⟩,
           ⟨some 8, none, .bin false .lss (.slot 5) (.slot 7)⟩])
          (.cond (.slot 8)
           .skip
           (.exit 0)))
         (.seq
          (.block 1
           (.region [⟨some 11, none, .move (.slot 3) false⟩,
            ⟨some 12, none, .bin false .mul (.slot 11) (.lit (.c (.d (.v (.int .u32 256)))))⟩,
            ⟨some 13, none, .move (.slot 0) false⟩,
            ⟨some 14, none, .move (.slot 4) false⟩,
            ⟨some 15, none, .indexAddr (.slot 13) (.slot 14) 1⟩,
            ⟨some 16, none, .load (.slot 15) false 1 false⟩,
            ⟨some 17, none, .conv .u32 (.slot 16)⟩,
            ⟨some 18, none, .bin false .add (.slot 12) (.slot 17)⟩,
            ⟨some 3, none, .move (.slot 18) true⟩]))
          (.region [⟨some 9, none, .move (.slot 4) false⟩,
           ⟨some 10, none, .bin false .add (.slot 9) (.lit (.c (.d (.v (.int .i64 1)))))⟩,
           ⟨some 4, none, .move (.slot 10) true⟩]))))))
     (.seq
      (.region [⟨some 19, none, .move (.slot 3) true⟩,
       ⟨some 2, none, .move (.slot 19) true⟩])
      .ret))))

theorem F_r06_Num : Fn Try.prog 26 Try.f26 20 [19] [.t 2] c_r06_Num where
  hm := by kernel_rfl
  hf := Try.func26
  hb := by kernel_rfl
  hc := by kernel_rfl
  hts := by kernel_rfl
  hnd := by decide
  hn := Nat.le_of_eq (by kernel_rfl)

def c_r08_Flags : VC :=
  (.seq
   (.region [⟨some 2, none, .move (.lit (.c (.d (.v (.int .i64 0))))) true⟩])
   (.seq
    (.region [⟨some 4, none, .buildSlice 3 1 9 [.v (.int .i64 0)] [(0, .lit (.c (.d (.v (.int .i64 0))))), (1, .lit (.c (.d (.v (.int .i64 64))))), (2, .lit (.c (.d (.v (.int .i64 64))))), (3, .lit (.c (.d (.v (.int .i64 64))))), (4, .lit (.c (.d (.v (.int .i64 128))))), (5, .lit (.c (.d (.v (.int .i64 64))))), (6, .lit (.c (.d (.v (.int .i64 64))))), (7, .lit (.c (.d (.v (.int .i64 192))))), (8, .lit (.c (.d (.v (.int .i64 192)))))]⟩,
     ⟨some 3, none, .move (.slot 4) true⟩])
    (.seq
     (.seq
      (.region [⟨some 5, none, .move (.slot 0) false⟩,
       ⟨some 6, none, .bin false .lss (.slot 5) (.lit (.c (.d (.v (.int .i64 1)))))⟩,
       ⟨some 7, none, .move (.slot 6) false⟩,
       ⟨some 8, some (7, false), .move (.slot 0) false⟩,
       ⟨some 9, some (7, false), .bin false .gtr (.slot 8) (.lit (.c (.d (.v (.int .i64 8)))))⟩,
       ⟨some 10, none, .pick (.slot 7) (.lit (.c (.d (.v (.bool true))))) (.slot 9)⟩])
      (.cond (.slot 10)
       (.seq
        (.region [⟨some 2, none, .move (.lit (.c (.d (.v (.int .i64 0))))) true⟩])
        .ret)
       .skip))
     (.seq
      (.region [⟨some 11, none, .move (.slot 3) false⟩,
       ⟨some 12, none, .move (.slot 0) false⟩,
       ⟨some 13, none, .indexAddr (.slot 11) (.slot 12) 1⟩,
       ⟨some 14, none, .load (.slot 13) false 1 true⟩,
       ⟨some 2, none, .move (.slot 14) true⟩])
      .ret))))

theorem F_r08_Flags : Fn Try.prog 27 Try.f27 15 [14] [.t 2] c_r08_Flags where
  hm := by kernel_rfl
  hf := Try.func27
  hb := by kernel_rfl
  hc := by kernel_rfl
  hts := by kernel_rfl
  hnd := by decide
  hn := Nat.le_of_eq (by kernel_rfl)

def c_r08_long : VC :=
  (.seq
   (.region [⟨some 4, none, .move (.lit (.c (.d (.v (.bool false))))) true⟩])
   (.seq
    (.region [⟨some 6, none, .buildSlice 3 1 9 [.v (.int .i64 0)] [(0, .lit (.c (.d (.v (.int .i64 0))))), (1, .lit (.c (.d (.v (.int .i64 1))))), (2, .lit (.c (.d (.v (.int .i64 (-1)))))), (3, .lit (.c (.d (.v (.int .i64 4))))), (4, .lit (.c (.d (.v (.int .i64 4))))), (5, .lit (.c (.d (.v (.int .i64 4))))), (6, .lit (.c (.d (.v (.int .i64 0))))), (7, .lit (.c (.d (.v (.int .i64 8))))), (8, .lit (.c (.d (.v (.int .i64 (-1))))))]⟩,
     ⟨some 5, none, .move (.slot 6) true⟩])
    (.seq
     (.seq
      (.region [⟨some 7, none, .move (.slot 0) false⟩,
       ⟨some 8, none, .bin false .eql (.slot 7) (.lit (.c (.d (.v (.int .i64 8)))))⟩])
      (.cond (.slot 8)
       (.seq
        (.region [⟨some 9, none, .move (.slot 1) false⟩,
         ⟨some 10, none, .bin false .rem (.slot 9) (.lit (.c (.d (.v (.int .i64 4)))))⟩,
         ⟨some 11, none, .bin false .eql (.slot 10) (.lit (.c (.d (.v (.int .i64 0)))))⟩,
         ⟨some 12, none, .move (.slot 11) false⟩,
         ⟨some 13, some (12, true), .move (.slot 1) false⟩,
         ⟨some 14, some (12, true), .bin false .leq (.slot 13) (.lit (.c (.d (.v (.int .i64 1020)))))⟩,
         ⟨some 15, none, .pick (.slot 12) (.slot 14) (.lit (.c (.d (.v (.bool false)))))⟩,
         ⟨some 4, none, .move (.slot 15) true⟩])
        .ret)
       .skip))
     (.seq
      (.region [⟨some 16, none, .move (.slot 5) false⟩,
       ⟨some 17, none, .move (.slot 0) false⟩,
       ⟨some 18, none, .indexAddr (.slot 16) (.slot 17) 1⟩,
       ⟨some 19, none, .load (.slot 18) false 1 false⟩,
       ⟨some 20, none, .bin false .lss (.slot 19) (.lit (.c (.d (.v (.int .i64 0)))))⟩,
       ⟨some 21, none, .move (.slot 20) false⟩,
       ⟨some 22, some (21, false), .move (.slot 5) false⟩,
       ⟨some 23, some (21, false), .move (.slot 0) false⟩,
       ⟨some 24, some (21, false), .indexAddr (.slot 22) (.slot 23) 1⟩,
       ⟨some 25, some (21, false), .load (.slot 24) false 1 false⟩,
       ⟨some 26, some (21, false), .move (.slot 1) false⟩,
       ⟨some 27, some (21, false), .bin false .eql (.slot 25) (.slot 26)⟩,
       ⟨some 28, none, .pick (.slot 21) (.lit (.c (.d (.v (.bool true))))) (.slot 27)⟩,
       ⟨some 4, none, .move (.slot 28) true⟩])
      .ret))))

theorem F_r08_long : Fn Try.prog 28 Try.f28 29 [] [.t 4] c_r08_long where
  hm := by kernel_rfl
  hf := Try.func28
  hb := by kernel_rfl
  hc := by kernel_rfl
  hts := by kernel_rfl
  hnd := by decide
  hn := Nat.le_of_eq (by kernel_rfl)

def c_r08_lay : VC :=
  (.seq
   (.region [⟨some 6, none, .move (.lit (.c (.d (.v (.int .i64 0))))) true⟩])
   (.seq
    (.region [⟨some 10, none, .move (.slot 2) false⟩,
     ⟨some 11, none, .call 59 [.slot 10]⟩,
     ⟨some 7, none, .move (.slot 11) true⟩])
    (.seq
     (.seq
      (.region [⟨some 12, none, .move (.slot 1) false⟩])
      (.block 0
       (.seq
        (.region [⟨some 14, none, .bin false .eql (.slot 12) (.lit (.c (.d (.v (.int .i64 1)))))⟩,
         ⟨some 13, none, .move (.slot 14) true⟩])
        (.cond (.slot 13)
         (.seq
          (.region [⟨some 15, none, .move (.slot 0) false⟩,
           ⟨some 16, none, .move (.slot 2) false⟩,
           ⟨some 17, none, .indexAddr (.slot 16) (.lit (.c (.d (.v (.int .i64 0))))) 1⟩,
           ⟨some 18, none, .load (.slot 17) false 1 false⟩,
           ⟨some 19, none, .conv .i64 (.slot 18)⟩,
           ⟨some 20, none, .nilCheck (.slot 15)⟩,
           ⟨some 21, none, .fieldAddr (.slot 20) 1⟩,
           ⟨none, none, .store (.slot 21) (.slot 19) 1⟩])
          (.seq
           (.region [⟨some 22, none, .move (.slot 2) false⟩,
            ⟨some 23, none, .indexAddr (.slot 22) (.lit (.c (.d (.v (.int .i64 0))))) 1⟩,
            ⟨some 24, none, .load (.slot 23) false 1 false⟩,
            ⟨some 25, none, .bin false .gtr (.slot 24) (.lit (.c (.d (.v (.int .u8 2)))))⟩])
           (.cond (.slot 25)
            (.seq
             (.region [⟨some 6, none, .move (.lit (.c (.d (.v (.int .i64 6))))) true⟩])
             .ret)
            .skip)))
         (.seq
          (.region [⟨some 27, none, .bin false .eql (.slot 12) (.lit (.c (.d (.v (.int .i64 2)))))⟩,
           ⟨some 26, none, .move (.slot 27) true⟩])
          (.cond (.slot 26)
           (.seq
            (.region [⟨some 29, none, .move (.slot 2) false⟩,
             ⟨some 30, none, .call 13 [.slot 29]⟩,
             ⟨some 28, none, .move (.slot 30) false⟩,
             ⟨some 31, none, .extract (.slot 28) 0 false⟩,
             ⟨some 32, none, .extract (.slot 28) 1 false⟩,
             ⟨some 8, none, .move (.slot 31) true⟩,
             ⟨some 9, none, .move (.slot 32) true⟩])
            (.seq
             (.region [⟨some 33, none, .move (.slot 0) false⟩,
              ⟨some 34, none, .move (.slot 8) false⟩,
              ⟨some 35, none, .call 60 [.slot 34]⟩,
              ⟨some 36, none, .nilCheck (.slot 33)⟩,
              ⟨some 37, none, .fieldAddr (.slot 36) 2⟩,
              ⟨none, none, .store (.slot 37) (.slot 35) 1⟩])
             (.seq
              (.region [⟨some 38, none, .move (.slot 9) false⟩,
               ⟨some 39, none, .un .not (.slot 38)⟩,
               ⟨some 40, none, .move (.slot 39) false⟩,
               ⟨some 41, some (40, false), .move (.slot 0) false⟩,
               ⟨some 42, some (40, false), .nilCheck (.slot 41)⟩,
               ⟨some 43, some (40, false), .fieldAddr (.slot 42) 2⟩,
               ⟨some 44, some (40, false), .load (.slot 43) false 1 false⟩,
               ⟨some 45, some (40, false), .call 37 [.slot 44]⟩,
               ⟨some 46, some (40, false), .un .not (.slot 45)⟩,
               ⟨some 47, none, .pick (.slot 40) (.lit (.c (.d (.v (.bool true))))) (.slot 46)⟩])
              (.cond (.slot 47)
               (.seq
                (.region [⟨some 6, none, .move (.lit (.c (.d (.v (.int .i64 11))))) true⟩])
                .ret)
               .skip))))
           (.seq
            (.region [⟨some 49, none, .bin false .eql (.slot 12) (.lit (.c (.d (.v (.int .i64 3)))))⟩,
             ⟨some 48, none, .move (.slot 49) true⟩])
            (.cond (.slot 48)
             (.seq
              (.region [⟨some 50, none, .move (.slot 0) false⟩,
               ⟨some 51, none, .move (.slot 7) false⟩,
               ⟨some 52, none, .indexAddr (.slot 51) (.lit (.c (.d (.v (.int .i64 0))))) 1⟩,
               ⟨some 53, none, .load (.slot 52) false 1 false⟩,
               ⟨some 54, none, .nilCheck (.slot 50)⟩,
               ⟨some 55, none, .fieldAddr (.slot 54) 3⟩,
               ⟨none, none, .store (.slot 55) (.slot 53) 1⟩])
              (.seq
               (.region [⟨some 56, none, .move (.slot 7) false⟩,
                ⟨some 57, none, .indexAddr (.slot 56) (.lit (.c (.d (.v (.int .i64 0))))) 1⟩,
                ⟨some 58, none, .load (.slot 57) false 1 false⟩,
                ⟨some 59, none, .call 39 [.slot 58]⟩,
                ⟨some 60, none, .un .not (.slot 59)⟩])
               (.cond (.slot 60)
                (.seq
                 (.region [⟨some 6, none, .move (.lit (.c (.d (.v (.int .i64 8))))) true⟩])
                 .ret)
                .skip)))
             (.seq
              (.region [⟨some 62, none, .bin false .eql (.slot 12) (.lit (.c (.d (.v (.int .i64 4)))))⟩,
               ⟨some 61, none, .move (.slot 62) true⟩])
              (.cond (.slot 61)
               (.region [⟨some 63, none, .move (.slot 0) false⟩,
                ⟨some 64, none, .move (.slot 7) false⟩,
                ⟨some 65, none, .indexAddr (.slot 64) (.lit (.c (.d (.v (.int .i64 0))))) 1⟩,
                ⟨some 66, none, .load (.slot 65) false 1 false⟩,
                ⟨some 67, none, .nilCheck (.slot 63)⟩,
                ⟨some 68, none, .fieldAddr (.slot 67) 4⟩,
                ⟨none, none, .store (.slot 68) (.slot 66) 1⟩])
               (.seq
                (.region [⟨some 70, none, .bin false .eql (.slot 12) (.lit (.c (.d (.v (.int .i64 5)))))⟩,
                 ⟨some 69, none, .move (.slot 70) true⟩])
                (.cond (.slot 69)
                 (.region [⟨some 71, none, .move (.slot 0) false⟩,
                  ⟨some 72, none, .move (.slot 7) false⟩,
                  ⟨some 73, none, .indexAddr (.slot 72) (.lit (.c (.d (.v (.int .i64 0))))) 1⟩,
                  ⟨some 74, none, .load (.slot 73) false 1 false⟩,
                  ⟨some 75, none, .nilCheck (.slot 71)⟩,
                  ⟨some 76, none, .fieldAddr (.slot 75) 5⟩,
                  ⟨none, none, .store (.slot 76) (.slot 74) 1⟩])
                 (.seq
                  (.region [⟨some 78, none, .bin false .eql (.slot 12) (.lit (.c (.d (.v (.int .i64 7)))))⟩,
                   ⟨some 77, none, .move (.slot 78) true⟩])
                  (.cond (.slot 77)
                   (.draw [] [⟨some 79, none, .move (.slot 0) false⟩,
                    ⟨some 80, none, .move (.slot 0) false⟩,
                    ⟨some 81, none, .move (.slot 7) false⟩,
                    ⟨some 82, none, .indexAddr (.slot 81) (.lit (.c (.d (.v (.int .i64 0))))) 1⟩,
                    ⟨some 83, none, .load (.slot 82) false 1 false⟩,
                    ⟨some 84, none, .move (.slot 7) false⟩,
                    ⟨some 85, none, .indexAddr (.slot 84) (.lit (.c (.d (.v (.int .i64 1))))) 1⟩,
                    ⟨some 86, none, .load (.slot 85) false 1 false⟩,
                    ⟨some 87, none, .nilCheck (.slot 79)⟩,
                    ⟨some 88, none, .fieldAddr (.slot 87) 6⟩,
                    ⟨none, none, .store (.slot 88) (.slot 83) 1⟩,
                    ⟨some 89, none, .nilCheck (.slot 80)⟩,
                    ⟨some 90, none, .fieldAddr (.slot 89) 7⟩,
                    ⟨none, none, .store (.slot 90) (.slot 86) 1⟩])
                   (.seq
                    (.region [⟨some 92, none, .bin false .eql (.slot 12) (.lit (.c (.d (.v (.int .i64 8)))))⟩,
                     ⟨some 91, none, .move (.slot 92) true⟩])
                    (.cond (.slot 91)
                     (.region [⟨some 93, none, .move (.slot 0) false⟩,
                      ⟨some 94, none, .move (.slot 7) false⟩,
                      ⟨some 95, none, .nilCheck (.slot 93)⟩,
                      ⟨some 96, none, .fieldAddr (.slot 95) 8⟩,
                      ⟨none, none, .store (.slot 96) (.slot 94) 1⟩])
                     (.seq
                      (.region [⟨some 6, none, .move (.lit (.c (.d (.v (.int .i64 0))))) true⟩])
                      .ret)))))))))))))))))
     (.seq
      (.region [⟨some 6, none, .move (.lit (.c (.d (.v (.int .i64 0))))) true⟩])
      .ret))))

theorem F_r08_lay : Fn Try.prog 29 Try.f29 97 [] [.t 6] c_r08_lay where
  hm := by kernel_rfl
  hf := Try.func29
  hb := by kernel_rfl
  hc := by kernel_rfl
  hts := by kernel_rfl
  hnd := by decide
  hn := Nat.le_of_eq (by kernel_rfl)

def c_r08_Norm : VC :=
  (.seq
   (.region [⟨some 1, none, .box 3 9 (.slot 0)⟩,
    ⟨some 2, none, .alloc 5 [.d (.v (.int .i64 0)), .d (.v (.int .i64 0)), .nilsl, .d (.v (.int .u32 0)), .d (.v (.int .u32 0)), .d (.v (.int .u32 0)), .d (.v (.int .u32 0)), .d (.v (.int .u32 0)), .nilsl]⟩])
   (.seq
    (.region [⟨some 5, none, .build [.d (.v (.int .i64 0)), .d (.v (.int .i64 0)), .nilsl, .d (.v (.int .u32 0)), .d (.v (.int .u32 0)), .d (.v (.int .u32 0)), .d (.v (.int .u32 0)), .d (.v (.int .u32 0)), .nilsl] []⟩,
     ⟨some 3, none, .alloc 7 [.d (.v (.int .i64 0)), .d (.v (.int .i64 0)), .nilsl, .d (.v (.int .u32 0)), .d (.v (.int .u32 0)), .d (.v (.int .u32 0)), .d (.v (.int .u32 0)), .d (.v (.int .u32 0)), .nilsl]⟩,
     ⟨none, none, .store (.slot 3) (.slot 5) 9⟩])
    (.seq
     (.seq
      (.region [⟨some 4, none, .move (.lit (.c (.d (.v (.int .i64 1))))) true⟩])
      (.block 0
       (.loop
        (.seq
         (.seq
          (.region [⟨some 6, none, .move (.slot 4) false⟩,
           ⟨some 7, none, .bin false .leq (.slot 6) (.lit (.c (.d (.v (.int .i64 8)))))⟩])
          (.cond (.slot 7)
           .skip
           (.exit 0)))
         (.seq
          (.block 1
           (.seq
            (.region [⟨some 10, none, .load (.slot 1) true 9 false⟩,
             ⟨some 11, none, .move (.slot 4) false⟩,
             ⟨some 12, none, .call 38 [.slot 10, .slot 11]⟩])
            (.cond (.slot 12)
             (.region [⟨some 13, none, .fieldAddr (.slot 3) 0⟩,
              ⟨some 14, none, .load (.slot 13) false 1 false⟩,
              ⟨some 15, none, .move (.slot 4) false⟩,
              ⟨some 16, none, .conv .u64 (.slot 15)⟩,
              ⟨some 17, none, .bin false .shl (.lit (.c (.d (.v (.int .i64 1))))) (.slot 16)⟩,
              ⟨some 18, none, .bin false .add (.slot 14) (.slot 17)⟩,
              ⟨some 19, none, .fieldAddr (.slot 3) 0⟩,
              ⟨none, none, .store (.slot 19) (.slot 18) 1⟩])
             .skip)))
          (.region [⟨some 8, none, .move (.slot 4) false⟩,
           ⟨some 9, none, .bin false .add (.slot 8) (.lit (.c (.d (.v (.int .i64 1)))))⟩,
           ⟨some 4, none, .move (.slot 9) true⟩]))))))
     (.seq
      (.seq
       (.region [⟨some 20, none, .load (.slot 1) true 9 false⟩,
        ⟨some 21, none, .call 38 [.slot 20, .lit (.c (.d (.v (.int .i64 1))))]⟩])
       (.cond (.slot 21)
        (.region [⟨some 22, none, .fieldAddr (.slot 1) 1⟩,
         ⟨some 23, none, .load (.slot 22) false 1 false⟩,
         ⟨some 24, none, .fieldAddr (.slot 3) 1⟩,
         ⟨none, none, .store (.slot 24) (.slot 23) 1⟩])
        .skip))
      (.seq
       (.seq
        (.region [⟨some 25, none, .load (.slot 1) true 9 false⟩,
         ⟨some 26, none, .call 38 [.slot 25, .lit (.c (.d (.v (.int .i64 2))))]⟩])
        (.cond (.slot 26)
         (.region [⟨some 27, none, .fieldAddr (.slot 1) 2⟩,
          ⟨some 28, none, .load (.slot 27) false 1 false⟩,
          ⟨some 29, none, .call 60 [.slot 28]⟩,
          ⟨some 30, none, .fieldAddr (.slot 3) 2⟩,
          ⟨none, none, .store (.slot 30) (.slot 29) 1⟩])
         .skip))
       (.seq
        (.seq
         (.region [⟨some 31, none, .load (.slot 1) true 9 false⟩,
          ⟨some 32, none, .call 38 [.slot 31, .lit (.c (.d (.v (.int .i64 3))))]⟩])
         (.cond (.slot 32)
          (.region [⟨some 33, none, .fieldAddr (.slot 1) 3⟩,
           ⟨some 34, none, .load (.slot 33) false 1 false⟩,
           ⟨some 35, none, .fieldAddr (.slot 3) 3⟩,
           ⟨none, none, .store (.slot 35) (.slot 34) 1⟩])
          .skip))
        (.seq
         (.seq
          (.region [⟨some 36, none, .load (.slot 1) true 9 false⟩,
           ⟨some 37, none, .call 38 [.slot 36, .lit (.c (.d (.v (.int .i64 4))))]⟩])
          (.cond (.slot 37)
           (.region [⟨some 38, none, .fieldAddr (.slot 1) 4⟩,
            ⟨some 39, none, .load (.slot 38) false 1 false⟩,
            ⟨some 40, none, .fieldAddr (.slot 3) 4⟩,
            ⟨none, none, .store (.slot 40) (.slot 39) 1⟩])
           .skip))
         (.seq
          (.seq
           (.region [⟨some 41, none, .load (.slot 1) true 9 false⟩,
            ⟨some 42, none, .call 38 [.slot 41, .lit (.c (.d (.v (.int .i64 5))))]⟩])
           (.cond (.slot 42)
            (.region [⟨some 43, none, .fieldAddr (.slot 1) 5⟩,
             ⟨some 44, none, .load (.slot 43) false 1 false⟩,
             ⟨some 45, none, .fieldAddr (.slot 3) 5⟩,
             ⟨none, none, .store (.slot 45) (.slot 44) 1⟩])
            .skip))
          (.seq
           (.seq
            (.region [⟨some 46, none, .load (.slot 1) true 9 false⟩,
             ⟨some 47, none, .call 38 [.slot 46, .lit (.c (.d (.v (.int .i64 7))))]⟩])
            (.cond (.slot 47)
             (.draw [(3, 5)] [⟨some 48, none, .fieldAddr (.slot 1) 6⟩,
              ⟨some 49, none, .load (.slot 48) false 1 false⟩,
              ⟨some 50, none, .fieldAddr (.slot 1) 7⟩,
              ⟨some 51, none, .load (.slot 50) false 1 false⟩,
              ⟨some 52, none, .fieldAddr (.slot 3) 6⟩,
              ⟨none, none, .store (.slot 52) (.slot 49) 1⟩,
              ⟨some 53, none, .fieldAddr (.slot 3) 7⟩,
              ⟨none, none, .store (.slot 53) (.slot 51) 1⟩])
             .skip))
           (.seq
            (.seq
             (.region [⟨some 54, none, .load (.slot 1) true 9 false⟩,
              ⟨some 55, none, .call 38 [.slot 54, .lit (.c (.d (.v (.int .i64 8))))]⟩])
             (.cond (.slot 55)
              (.region [⟨some 56, none, .fieldAddr (.slot 1) 8⟩,
               ⟨some 57, none, .load (.slot 56) false 1 false⟩,
               ⟨some 58, none, .call 61 [.slot 57]⟩,
               ⟨some 59, none, .fieldAddr (.slot 3) 8⟩,
               ⟨none, none, .store (.slot 59) (.slot 58) 1⟩])
              .skip))
            (.seq
             (.region [⟨some 60, none, .load (.slot 3) true 9 false⟩,
              ⟨none, none, .store (.slot 2) (.slot 60) 9⟩])
             .ret)))))))))))

theorem F_r08_Norm : Fn Try.prog 30 Try.f30 61 [] [.cell 2 true 9] c_r08_Norm where
  hm := by kernel_rfl
  hf := Try.func30
  hb := by kernel_rfl
  hc := by kernel_rfl
  hts := by kernel_rfl
  hnd := by decide
  hn := Nat.le_of_eq (by kernel_rfl)

def c_r02_Same : VC :=
  (.seq
   (.region [⟨some 4, none, .move (.lit (.c (.d (.v (.bool false))))) true⟩])
   (.seq
    (.seq
     (.region [⟨some 6, none, .move (.slot 0) false⟩,
      ⟨some 7, none, .len (.slot 6)⟩,
      ⟨some 8, none, .move (.slot 1) false⟩,
      ⟨some 9, none, .len (.slot 8)⟩,
      ⟨some 10, none, .bin false .neq (.slot 7) (.slot 9)⟩])
     (.cond (.slot 10)
      (.seq
       (.region [⟨some 4, none, .move (.lit (.c (.d (.v (.bool false))))) true⟩])
       .ret)
      .skip))
    (.seq
     (.seq
      (.region [⟨some 5, none, .move (.lit (.c (.d (.v (.int .i64 0))))) true⟩])
      (.block 0
       (.loop
        (.seq
         (.seq
          (.region [⟨some 11, none, .move (.slot 5) false⟩,
           ⟨some 12, none, .move (.slot 0) false⟩,
           ⟨some 13, none, .len (.slot 12)⟩,
           ⟨some 14, none, .bin false .lss (.slot 11) (.slot 13)⟩])
          (.cond (.slot 14)
           .skip
           (.exit 0)))
         (.seq
          (.block 1
           (.seq
            (.draw [] [⟨some 17, none, .move (.slot 0) false⟩,
             ⟨some 18, none, .move (.slot 5) false⟩,
             ⟨some 19, none, .indexAddr (.slot 17) (.slot 18) 1⟩,
             ⟨some 20, none, .load (.slot 19) false 1 false⟩,
             ⟨some 21, none, .move (.slot 1) false⟩,
             ⟨some 22, none, .move (.slot 5) false⟩,
             ⟨some 23, none, .indexAddr (.slot 21) (.slot 22) 1⟩,
             ⟨some 24, none, .load (.slot 23) false 1 false⟩,
             ⟨some 25, none, .bin false .neq (.slot 20) (.slot 24)⟩])
            (.cond (.slot 25)
             (.seq
              (.region [⟨some 4, none, .move (.lit (.c (.d (.v (.bool false))))) true⟩])
              .ret)
             .skip)))
          (.region [⟨some 15, none, .move (.slot 5) false⟩,
           ⟨some 16, none, .bin false .add (.slot 15) (.lit (.c (.d (.v (.int .i64 1)))))⟩,
           ⟨some 5, none, .move (.slot 16) true⟩]))))))
     (.seq
      (.region [⟨some 4, none, .move (.lit (.c (.d (.v (.bool true))))) true⟩])
      .ret))))

theorem F_r02_Same : Fn Try.prog 31 Try.f31 26 [] [.t 4] c_r02_Same where
  hm := by kernel_rfl
  hf := Try.func31
  hb := by kernel_rfl
  hc := by kernel_rfl
  hts := by kernel_rfl
  hnd := by decide
  hn := Nat.le_of_eq (by kernel_rfl)

end Go.V

