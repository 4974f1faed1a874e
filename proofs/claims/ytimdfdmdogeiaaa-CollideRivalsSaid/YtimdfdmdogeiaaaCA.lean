/- The value machine: the code of functions, as its compiler takes it (printed by a program). -/
import Derived.Test.YtimdfdmdogeiaaaV25
import Derived.Test.YtimdfdmdogeiaaaProg
set_option linter.all false
set_option linter.unusedSimpArgs false
set_option linter.unusedVariables false
namespace Go.V
open Go Go.Proofs

def c5 : VC :=
  (.seq
   (.region [⟨some 4, none, .box 9 6 (.slot 0)⟩,
    ⟨some 5, none, .box 11 9 (.slot 1)⟩,
    ⟨some 7, none, .box 15 4 (.slot 3)⟩,
    ⟨some 8, none, .move (.lit (.c (.d (.v (.bool false))))) true⟩,
    ⟨some 9, none, .alloc 19 [.d (.v (.int .i64 0)), .d (.v (.int .i64 0)), .nilsl]⟩])
   (.seq
    (.region [⟨some 10, none, .load (.slot 4) true 6 false⟩,
     ⟨some 11, none, .load (.slot 5) true 9 false⟩,
     ⟨some 12, none, .move (.slot 2) false⟩,
     ⟨some 13, none, .load (.slot 7) true 4 false⟩,
     ⟨some 14, none, .call 14 [.slot 10, .slot 11, .slot 12, .slot 13]⟩,
     ⟨some 15, none, .extract (.slot 14) 0 false⟩,
     ⟨some 16, none, .extract (.slot 14) 1 false⟩,
     ⟨some 8, none, .move (.slot 15) true⟩,
     ⟨none, none, .store (.slot 9) (.slot 16) 3⟩])
    .ret))

theorem F5 : Fn Try.prog 5 Try.f5 17 [] [.t 8, .cell 9 true 3] c5 where
  hm := by kernel_rfl
  hf := Try.func5
  hb := by kernel_rfl
  hc := by kernel_rfl
  hts := by kernel_rfl
  hnd := by decide
  hn := Nat.le_of_eq (by kernel_rfl)

def c6 : VC :=
  (.seq
   (.region [⟨some 1, none, .box 3 9 (.slot 0)⟩,
    ⟨some 2, none, .move (.lit (.c (.d (.v (.bool false))))) true⟩])
   (.seq
    (.region [⟨some 3, none, .fieldAddr (.slot 1) 0⟩,
     ⟨some 4, none, .load (.slot 3) false 1 false⟩,
     ⟨some 5, none, .bin false .eql (.slot 4) (.lit (.c (.d (.v (.int .i64 3)))))⟩,
     ⟨some 6, none, .move (.slot 5) false⟩,
     ⟨some 7, some (6, false), .fieldAddr (.slot 1) 0⟩,
     ⟨some 8, some (6, false), .load (.slot 7) false 1 false⟩,
     ⟨some 9, some (6, false), .bin false .eql (.slot 8) (.lit (.c (.d (.v (.int .i64 4)))))⟩,
     ⟨some 10, none, .pick (.slot 6) (.lit (.c (.d (.v (.bool true))))) (.slot 9)⟩,
     ⟨some 11, none, .move (.slot 10) false⟩,
     ⟨some 12, some (11, false), .fieldAddr (.slot 1) 0⟩,
     ⟨some 13, some (11, false), .load (.slot 12) false 1 false⟩,
     ⟨some 14, some (11, false), .bin false .eql (.slot 13) (.lit (.c (.d (.v (.int .i64 5)))))⟩,
     ⟨some 15, none, .pick (.slot 11) (.lit (.c (.d (.v (.bool true))))) (.slot 14)⟩,
     ⟨some 2, none, .move (.slot 15) true⟩])
    .ret))

theorem F6 : Fn Try.prog 6 Try.f6 16 [] [.t 2] c6 where
  hm := by kernel_rfl
  hf := Try.func6
  hb := by kernel_rfl
  hc := by kernel_rfl
  hts := by kernel_rfl
  hnd := by decide
  hn := Nat.le_of_eq (by kernel_rfl)

def c7 : VC :=
  (.seq
   (.region [⟨some 4, none, .box 9 6 (.slot 0)⟩,
    ⟨some 5, none, .box 11 9 (.slot 1)⟩,
    ⟨some 7, none, .box 15 4 (.slot 3)⟩,
    ⟨some 8, none, .move (.lit (.c (.d (.v (.bool false))))) true⟩])
   (.seq
    (.seq
     (.region [⟨some 9, none, .fieldAddr (.slot 5) 0⟩,
      ⟨some 10, none, .load (.slot 9) false 1 false⟩,
      ⟨some 11, none, .bin false .eql (.slot 10) (.lit (.c (.d (.v (.int .i64 5)))))⟩])
     (.cond (.slot 11)
      (.seq
       (.region [⟨some 8, none, .move (.lit (.c (.d (.v (.bool false))))) true⟩])
       .ret)
      .skip))
    (.seq
     (.seq
      (.region [⟨some 12, none, .fieldAddr (.slot 5) 0⟩,
       ⟨some 13, none, .load (.slot 12) false 1 false⟩,
       ⟨some 14, none, .bin false .eql (.slot 13) (.lit (.c (.d (.v (.int .i64 3)))))⟩,
       ⟨some 15, none, .move (.slot 14) false⟩,
       ⟨some 16, some (15, false), .fieldAddr (.slot 5) 0⟩,
       ⟨some 17, some (15, false), .load (.slot 16) false 1 false⟩,
       ⟨some 18, some (15, false), .bin false .eql (.slot 17) (.lit (.c (.d (.v (.int .i64 4)))))⟩,
       ⟨some 19, none, .pick (.slot 15) (.lit (.c (.d (.v (.bool true))))) (.slot 18)⟩])
      (.cond (.slot 19)
       (.seq
        (.region [⟨some 20, none, .fieldAddr (.slot 4) 1⟩,
         ⟨some 21, none, .load (.slot 20) false 1 false⟩,
         ⟨some 22, none, .fieldAddr (.slot 7) 2⟩,
         ⟨some 23, none, .load (.slot 22) false 1 false⟩,
         ⟨some 24, none, .move (.slot 2) false⟩,
         ⟨some 25, none, .call 15 [.slot 21, .slot 23, .slot 24]⟩,
         ⟨some 26, none, .un .not (.slot 25)⟩,
         ⟨some 8, none, .move (.slot 26) true⟩])
        .ret)
       .skip))
     (.seq
      (.region [⟨some 8, none, .move (.lit (.c (.d (.v (.bool true))))) true⟩])
      .ret))))

theorem F7 : Fn Try.prog 7 Try.f7 27 [] [.t 8] c7 where
  hm := by kernel_rfl
  hf := Try.func7
  hb := by kernel_rfl
  hc := by kernel_rfl
  hts := by kernel_rfl
  hnd := by decide
  hn := Nat.le_of_eq (by kernel_rfl)

def c8 : VC :=
  (.seq
   (.region [⟨some 2, none, .box 5 3 (.slot 0)⟩,
    ⟨some 3, none, .box 7 3 (.slot 1)⟩,
    ⟨some 4, none, .move (.lit (.c (.d (.v (.bool false))))) true⟩])
   (.seq
    (.region [⟨some 5, none, .fieldAddr (.slot 2) 0⟩,
     ⟨some 6, none, .load (.slot 5) false 1 false⟩,
     ⟨some 7, none, .fieldAddr (.slot 3) 0⟩,
     ⟨some 8, none, .load (.slot 7) false 1 false⟩,
     ⟨some 9, none, .bin false .eql (.slot 6) (.slot 8)⟩,
     ⟨some 10, none, .move (.slot 9) false⟩,
     ⟨some 11, some (10, true), .fieldAddr (.slot 2) 1⟩,
     ⟨some 12, some (10, true), .load (.slot 11) false 1 false⟩,
     ⟨some 13, some (10, true), .fieldAddr (.slot 3) 1⟩,
     ⟨some 14, some (10, true), .load (.slot 13) false 1 false⟩,
     ⟨some 15, some (10, true), .bin false .eql (.slot 12) (.slot 14)⟩,
     ⟨some 16, none, .pick (.slot 10) (.slot 15) (.lit (.c (.d (.v (.bool false)))))⟩,
     ⟨some 17, none, .move (.slot 16) false⟩,
     ⟨some 18, some (17, true), .fieldAddr (.slot 2) 2⟩,
     ⟨some 19, some (17, true), .load (.slot 18) false 1 false⟩,
     ⟨some 20, some (17, true), .toStr (.slot 19)⟩,
     ⟨some 21, some (17, true), .fieldAddr (.slot 3) 2⟩,
     ⟨some 22, some (17, true), .load (.slot 21) false 1 false⟩,
     ⟨some 23, some (17, true), .toStr (.slot 22)⟩,
     ⟨some 24, some (17, true), .bin false .eql (.slot 20) (.slot 23)⟩,
     ⟨some 25, none, .pick (.slot 17) (.slot 24) (.lit (.c (.d (.v (.bool false)))))⟩,
     ⟨some 4, none, .move (.slot 25) true⟩])
    .ret))

theorem F8 : Fn Try.prog 8 Try.f8 26 [] [.t 4] c8 where
  hm := by kernel_rfl
  hf := Try.func8
  hb := by kernel_rfl
  hc := by kernel_rfl
  hts := by kernel_rfl
  hnd := by decide
  hn := Nat.le_of_eq (by kernel_rfl)

def c9 : VC :=
  (.seq
   (.region [⟨some 3, none, .box 7 6 (.slot 0)⟩,
    ⟨some 4, none, .box 9 9 (.slot 1)⟩,
    ⟨some 5, none, .box 11 4 (.slot 2)⟩,
    ⟨some 6, none, .alloc 13 [.d (.v (.int .i64 0)), .d (.v (.int .i64 0)), .d (.v (.int .i64 0)), .d (.v (.int .i64 0)), .d (.v (.int .i64 0)), .d (.v (.int .u32 0)), .d (.v (.int .i64 0)), .d (.v (.int .u32 0)), .d (.v (.bool false))]⟩,
    ⟨some 7, none, .alloc 15 [.nilsl, .d (.v (.bool false)), .d (.v (.bool false)), .d (.v (.bool false)), .d (.v (.bool false))]⟩])
   (.seq
    (.region [⟨some 8, none, .load (.slot 3) true 6 false⟩,
     ⟨some 9, none, .load (.slot 4) true 9 false⟩,
     ⟨some 10, none, .load (.slot 5) true 4 false⟩,
     ⟨some 11, none, .call 16 [.slot 8, .slot 9, .slot 10]⟩,
     ⟨some 12, none, .extract (.slot 11) 0 false⟩,
     ⟨some 13, none, .extract (.slot 11) 1 false⟩,
     ⟨none, none, .store (.slot 6) (.slot 12) 9⟩,
     ⟨none, none, .store (.slot 7) (.slot 13) 5⟩])
    .ret))

theorem F9 : Fn Try.prog 9 Try.f9 14 [] [.cell 6 true 9, .cell 7 true 5] c9 where
  hm := by kernel_rfl
  hf := Try.func9
  hb := by kernel_rfl
  hc := by kernel_rfl
  hts := by kernel_rfl
  hnd := by decide
  hn := Nat.le_of_eq (by kernel_rfl)

def c12 : VC :=
  (.seq
   (.region [⟨some 4, none, .box 9 6 (.slot 0)⟩,
    ⟨some 5, none, .box 11 9 (.slot 1)⟩,
    ⟨some 7, none, .box 15 4 (.slot 3)⟩,
    ⟨some 8, none, .alloc 17 [.d (.v (.int .i64 0)), .d (.v (.int .i64 0)), .d (.v (.int .i64 0)), .d (.v (.int .i64 0)), .d (.v (.int .i64 0)), .d (.v (.int .u32 0)), .d (.v (.int .i64 0)), .d (.v (.int .u32 0)), .d (.v (.bool false))]⟩,
    ⟨some 9, none, .alloc 19 [.nilsl, .d (.v (.bool false)), .d (.v (.bool false)), .d (.v (.bool false)), .d (.v (.bool false))]⟩,
    ⟨some 10, none, .move (.lit (.c (.d (.v (.bool false))))) true⟩])
   (.seq
    (.seq
     (.region [⟨some 16, none, .load (.slot 4) true 6 false⟩,
      ⟨some 17, none, .load (.slot 5) true 9 false⟩,
      ⟨some 18, none, .move (.slot 2) false⟩,
      ⟨some 19, none, .load (.slot 7) true 4 false⟩,
      ⟨some 20, none, .call 14 [.slot 16, .slot 17, .slot 18, .slot 19]⟩,
      ⟨some 15, none, .move (.slot 20) false⟩,
      ⟨some 21, none, .extract (.slot 15) 0 false⟩,
      ⟨some 22, none, .extract (.slot 15) 1 false⟩,
      ⟨some 12, none, .alloc 25 [.d (.v (.int .i64 0)), .d (.v (.int .i64 0)), .nilsl]⟩,
      ⟨some 11, none, .move (.slot 21) true⟩,
      ⟨none, none, .store (.slot 12) (.slot 22) 3⟩])
     (.seq
      (.region [⟨some 23, none, .move (.slot 11) false⟩,
       ⟨some 24, none, .un .not (.slot 23)⟩])
      (.cond (.slot 24)
       (.seq
        (.region [⟨some 25, none, .load (.slot 5) true 9 false⟩,
         ⟨some 26, none, .build [.nilsl, .d (.v (.bool false)), .d (.v (.bool false)), .d (.v (.bool false)), .d (.v (.bool false))] []⟩,
         ⟨none, none, .store (.slot 8) (.slot 25) 9⟩,
         ⟨none, none, .store (.slot 9) (.slot 26) 5⟩,
         ⟨some 10, none, .move (.lit (.c (.d (.v (.bool false))))) true⟩])
        .ret)
       .skip)))
    (.seq
     (.region [⟨some 28, none, .load (.slot 4) true 6 false⟩,
      ⟨some 29, none, .load (.slot 5) true 9 false⟩,
      ⟨some 30, none, .load (.slot 7) true 4 false⟩,
      ⟨some 31, none, .call 16 [.slot 28, .slot 29, .slot 30]⟩,
      ⟨some 27, none, .move (.slot 31) false⟩,
      ⟨some 32, none, .extract (.slot 27) 0 false⟩,
      ⟨some 33, none, .extract (.slot 27) 1 false⟩,
      ⟨some 13, none, .alloc 27 [.d (.v (.int .i64 0)), .d (.v (.int .i64 0)), .d (.v (.int .i64 0)), .d (.v (.int .i64 0)), .d (.v (.int .i64 0)), .d (.v (.int .u32 0)), .d (.v (.int .i64 0)), .d (.v (.int .u32 0)), .d (.v (.bool false))]⟩,
      ⟨some 14, none, .alloc 29 [.nilsl, .d (.v (.bool false)), .d (.v (.bool false)), .d (.v (.bool false)), .d (.v (.bool false))]⟩,
      ⟨none, none, .store (.slot 13) (.slot 32) 9⟩,
      ⟨none, none, .store (.slot 14) (.slot 33) 5⟩])
     (.seq
      (.draw [(1, 2)] [⟨some 34, none, .load (.slot 13) true 9 false⟩,
       ⟨some 35, none, .load (.slot 14) true 5 false⟩,
       ⟨none, none, .store (.slot 8) (.slot 34) 9⟩,
       ⟨none, none, .store (.slot 9) (.slot 35) 5⟩,
       ⟨some 10, none, .move (.lit (.c (.d (.v (.bool true))))) true⟩])
      .ret))))

theorem F12 : Fn Try.prog 12 Try.f12 36 [] [.cell 8 true 9, .cell 9 true 5, .t 10] c12 where
  hm := by kernel_rfl
  hf := Try.func12
  hb := by kernel_rfl
  hc := by kernel_rfl
  hts := by kernel_rfl
  hnd := by decide
  hn := Nat.le_of_eq (by kernel_rfl)

def c13 : VC :=
  (.seq
   (.region [⟨some 6, none, .move (.lit (.c (.d (.v (.bool false))))) true⟩])
   (.seq
    (.region [⟨some 7, none, .move (.slot 0) false⟩,
     ⟨some 8, none, .move (.slot 1) false⟩,
     ⟨some 9, none, .move (.slot 2) false⟩,
     ⟨some 10, none, .call 20 [.slot 7, .slot 8, .slot 9]⟩,
     ⟨some 6, none, .move (.slot 10) true⟩])
    .ret))

theorem F13 : Fn Try.prog 13 Try.f13 11 [] [.t 6] c13 where
  hm := by kernel_rfl
  hf := Try.func13
  hb := by kernel_rfl
  hc := by kernel_rfl
  hts := by kernel_rfl
  hnd := by decide
  hn := Nat.le_of_eq (by kernel_rfl)

def c14 : VC :=
  (.seq
   (.region [⟨some 4, none, .box 9 6 (.slot 0)⟩,
    ⟨some 5, none, .box 11 9 (.slot 1)⟩,
    ⟨some 7, none, .box 15 4 (.slot 3)⟩,
    ⟨some 8, none, .move (.lit (.c (.d (.v (.bool false))))) true⟩,
    ⟨some 9, none, .alloc 19 [.d (.v (.int .i64 0)), .d (.v (.int .i64 0)), .nilsl]⟩])
   (.seq
    (.seq
     (.region [⟨some 10, none, .fieldAddr (.slot 5) 0⟩,
      ⟨some 11, none, .load (.slot 10) false 1 false⟩])
     (.block 0
      (.seq
       (.region [⟨some 13, none, .bin false .eql (.slot 11) (.lit (.c (.d (.v (.int .i64 5)))))⟩,
        ⟨some 12, none, .move (.slot 13) true⟩])
       (.cond (.slot 12)
        (.seq
         (.region [⟨some 14, none, .call 21 [.lit (.c (.d (.v (.int .i64 7))))]⟩,
          ⟨some 8, none, .move (.lit (.c (.d (.v (.bool false))))) true⟩,
          ⟨none, none, .store (.slot 9) (.slot 14) 3⟩])
         .ret)
        (.seq
         (.seq
          (.region [⟨some 16, none, .bin false .eql (.slot 11) (.lit (.c (.d (.v (.int .i64 3)))))⟩,
           ⟨some 15, none, .move (.slot 16) true⟩])
          (.cond (.slot 15)
           .skip
           (.region [⟨some 17, none, .bin false .eql (.slot 11) (.lit (.c (.d (.v (.int .i64 4)))))⟩,
            ⟨some 15, none, .move (.slot 17) true⟩])))
         (.cond (.slot 15)
          (.seq
           (.region [⟨some 18, none, .fieldAddr (.slot 4) 1⟩,
            ⟨some 19, none, .load (.slot 18) false 1 false⟩,
            ⟨some 20, none, .fieldAddr (.slot 7) 2⟩,
            ⟨some 21, none, .load (.slot 20) false 1 false⟩,
            ⟨some 22, none, .move (.slot 2) false⟩,
            ⟨some 23, none, .call 20 [.slot 19, .slot 21, .slot 22]⟩,
            ⟨some 24, none, .un .not (.slot 23)⟩,
            ⟨some 25, none, .call 21 [.lit (.c (.d (.v (.int .i64 7))))]⟩,
            ⟨some 8, none, .move (.slot 24) true⟩,
            ⟨none, none, .store (.slot 9) (.slot 25) 3⟩])
           .ret)
          .skip))))))
    (.seq
     (.region [⟨some 26, none, .build [.d (.v (.int .i64 0)), .d (.v (.int .i64 0)), .nilsl] []⟩,
      ⟨some 8, none, .move (.lit (.c (.d (.v (.bool true))))) true⟩,
      ⟨none, none, .store (.slot 9) (.slot 26) 3⟩])
     .ret)))

theorem F14 : Fn Try.prog 14 Try.f14 27 [] [.t 8, .cell 9 true 3] c14 where
  hm := by kernel_rfl
  hf := Try.func14
  hb := by kernel_rfl
  hc := by kernel_rfl
  hts := by kernel_rfl
  hnd := by decide
  hn := Nat.le_of_eq (by kernel_rfl)

def c15 : VC :=
  (.seq
   (.region [⟨some 6, none, .move (.lit (.c (.d (.v (.bool false))))) true⟩])
   (.seq
    (.seq
     (.region [⟨some 7, none, .move (.slot 0) false⟩,
      ⟨some 8, none, .move (.slot 1) false⟩,
      ⟨some 9, none, .bin false .eql (.slot 7) (.slot 8)⟩])
     (.cond (.slot 9)
      (.seq
       (.region [⟨some 6, none, .move (.lit (.c (.d (.v (.bool true))))) true⟩])
       .ret)
      .skip))
    (.seq
     (.seq
      (.region [⟨some 10, none, .move (.slot 2) false⟩])
      (.cond (.slot 10)
       (.seq
        (.region [⟨some 11, none, .move (.slot 0) false⟩,
         ⟨some 12, none, .move (.slot 1) false⟩,
         ⟨some 13, none, .bin false .gtr (.slot 11) (.slot 12)⟩,
         ⟨some 6, none, .move (.slot 13) true⟩])
        .ret)
       .skip))
     (.seq
      (.region [⟨some 14, none, .move (.slot 0) false⟩,
       ⟨some 15, none, .move (.slot 1) false⟩,
       ⟨some 16, none, .bin false .lss (.slot 14) (.slot 15)⟩,
       ⟨some 6, none, .move (.slot 16) true⟩])
      .ret))))

theorem F15 : Fn Try.prog 15 Try.f15 17 [] [.t 6] c15 where
  hm := by kernel_rfl
  hf := Try.func15
  hb := by kernel_rfl
  hc := by kernel_rfl
  hts := by kernel_rfl
  hnd := by decide
  hn := Nat.le_of_eq (by kernel_rfl)

def c20 : VC :=
  (.seq
   (.region [⟨some 6, none, .move (.lit (.c (.d (.v (.bool false))))) true⟩])
   (.seq
    (.region [⟨some 7, none, .move (.slot 0) false⟩,
     ⟨some 8, none, .move (.slot 1) false⟩,
     ⟨some 9, none, .bin false .eql (.slot 7) (.slot 8)⟩,
     ⟨some 10, none, .move (.slot 9) false⟩,
     ⟨some 11, some (10, false), .move (.slot 2) false⟩,
     ⟨some 12, some (10, false), .move (.slot 0) false⟩,
     ⟨some 13, some (10, false), .move (.slot 1) false⟩,
     ⟨some 14, some (10, false), .bin false .gtr (.slot 12) (.slot 13)⟩,
     ⟨some 15, some (10, false), .bin true .eql (.slot 11) (.slot 14)⟩,
     ⟨some 16, none, .pick (.slot 10) (.lit (.c (.d (.v (.bool true))))) (.slot 15)⟩,
     ⟨some 6, none, .move (.slot 16) true⟩])
    .ret))

theorem F20 : Fn Try.prog 20 Try.f20 17 [] [.t 6] c20 where
  hm := by kernel_rfl
  hf := Try.func20
  hb := by kernel_rfl
  hc := by kernel_rfl
  hts := by kernel_rfl
  hnd := by decide
  hn := Nat.le_of_eq (by kernel_rfl)

def c21 : VC :=
  (.seq
   (.region [⟨some 2, none, .alloc 5 [.d (.v (.int .i64 0)), .d (.v (.int .i64 0)), .nilsl]⟩])
   (.seq
    (.region [⟨some 3, none, .move (.slot 0) false⟩,
     ⟨some 4, none, .build [.d (.v (.int .i64 0)), .d (.v (.int .i64 0)), .nilsl] [(0, (1, .lit (.c (.d (.v (.int .i64 6)))))), (1, (1, .slot 3))]⟩,
     ⟨none, none, .store (.slot 2) (.slot 4) 3⟩])
    .ret))

theorem F21 : Fn Try.prog 21 Try.f21 5 [] [.cell 2 true 3] c21 where
  hm := by kernel_rfl
  hf := Try.func21
  hb := by kernel_rfl
  hc := by kernel_rfl
  hts := by kernel_rfl
  hnd := by decide
  hn := Nat.le_of_eq (by kernel_rfl)

def c22 : VC :=
  (.seq
   (.region [⟨some 3, none, .box 7 6 (.slot 0)⟩,
    ⟨some 4, none, .box 9 9 (.slot 1)⟩,
    ⟨some 5, none, .box 11 23 (.slot 2)⟩,
    ⟨some 6, none, .alloc 13 [.d (.v (.int .i64 0)), .d (.v (.int .i64 0)), .d (.v (.int .i64 0)), .d (.v (.int .i64 0)), .d (.v (.int .i64 0)), .d (.v (.int .u32 0)), .d (.v (.int .i64 0)), .d (.v (.int .u32 0)), .d (.v (.bool false))]⟩,
    ⟨some 7, none, .alloc 15 [.nilsl, .d (.v (.bool false)), .d (.v (.bool false)), .d (.v (.bool false)), .d (.v (.bool false))]⟩])
   (.seq
    (.region [⟨some 8, none, .load (.slot 3) true 6 false⟩,
     ⟨some 9, none, .load (.slot 4) true 9 false⟩,
     ⟨some 10, none, .load (.slot 5) true 23 false⟩,
     ⟨some 11, none, .call 29 [.slot 8, .slot 9, .slot 10]⟩,
     ⟨some 12, none, .extract (.slot 11) 0 false⟩,
     ⟨some 13, none, .extract (.slot 11) 1 false⟩,
     ⟨none, none, .store (.slot 6) (.slot 12) 9⟩,
     ⟨none, none, .store (.slot 7) (.slot 13) 5⟩])
    .ret))

theorem F22 : Fn Try.prog 22 Try.f22 14 [] [.cell 6 true 9, .cell 7 true 5] c22 where
  hm := by kernel_rfl
  hf := Try.func22
  hb := by kernel_rfl
  hc := by kernel_rfl
  hts := by kernel_rfl
  hnd := by decide
  hn := Nat.le_of_eq (by kernel_rfl)

def c25 : VC :=
  (.seq
   (.region [⟨some 3, none, .box 7 6 (.slot 0)⟩,
    ⟨some 4, none, .box 9 9 (.slot 1)⟩,
    ⟨some 5, none, .box 11 3 (.slot 2)⟩,
    ⟨some 6, none, .alloc 13 [.d (.v (.int .i64 0)), .d (.v (.int .i64 0)), .d (.v (.int .i64 0)), .d (.v (.int .i64 0)), .d (.v (.int .i64 0)), .d (.v (.int .u32 0)), .d (.v (.int .i64 0)), .d (.v (.int .u32 0)), .d (.v (.bool false))]⟩,
    ⟨some 7, none, .alloc 15 [.nilsl, .d (.v (.bool false)), .d (.v (.bool false)), .d (.v (.bool false)), .d (.v (.bool false))]⟩])
   (.seq
    (.draw [(1, 8), (0, 11), (1, 11), (4, 11), (8, 11)] [⟨some 9, none, .load (.slot 4) true 9 false⟩,
     ⟨some 10, none, .call 6 [.slot 9]⟩,
     ⟨some 11, none, .move (.slot 10) false⟩,
     ⟨some 12, some (11, false), .fieldAddr (.slot 4) 0⟩,
     ⟨some 13, some (11, false), .load (.slot 12) false 1 false⟩,
     ⟨some 14, some (11, false), .bin false .eql (.slot 13) (.lit (.c (.d (.v (.int .i64 1)))))⟩,
     ⟨some 15, none, .pick (.slot 11) (.lit (.c (.d (.v (.bool true))))) (.slot 14)⟩,
     ⟨some 16, none, .fieldAddr (.slot 4) 0⟩,
     ⟨some 17, none, .load (.slot 16) false 1 false⟩,
     ⟨some 18, none, .bin false .eql (.slot 17) (.lit (.c (.d (.v (.int .i64 5)))))⟩,
     ⟨some 19, none, .build [.nilsl, .d (.v (.bool false)), .d (.v (.bool false)), .d (.v (.bool false)), .d (.v (.bool false))] [(2, (1, .slot 15)), (4, (1, .slot 18))]⟩,
     ⟨some 8, none, .alloc 17 [.nilsl, .d (.v (.bool false)), .d (.v (.bool false)), .d (.v (.bool false)), .d (.v (.bool false))]⟩,
     ⟨none, none, .store (.slot 8) (.slot 19) 5⟩])
    (.seq
     (.seq
      (.region [⟨some 20, none, .load (.slot 4) true 9 false⟩,
       ⟨some 21, none, .call 6 [.slot 20]⟩,
       ⟨some 22, none, .move (.slot 21) false⟩,
       ⟨some 23, some (22, true), .fieldAddr (.slot 5) 0⟩,
       ⟨some 24, some (22, true), .load (.slot 23) false 1 false⟩,
       ⟨some 25, some (22, true), .bin false .neq (.slot 24) (.lit (.c (.d (.v (.int .i64 0)))))⟩,
       ⟨some 26, none, .pick (.slot 22) (.slot 25) (.lit (.c (.d (.v (.bool false)))))⟩])
      (.cond (.slot 26)
       (.region [⟨some 27, none, .load (.slot 5) true 3 false⟩,
        ⟨some 28, none, .build [.d (.v (.int .i64 0)), .d (.v (.int .u32 0)), .d (.v (.int .i64 0)), .d (.v (.int .u32 0)), .d (.v (.bool false)), .nilsl, .d (.v (.int .i64 0)), .d (.v (.int .i64 0)), .nilsl, .d (.v (.int .u32 0)), .d (.v (.int .u32 0)), .d (.v (.int .u32 0)), .d (.v (.int .u32 0)), .d (.v (.int .u32 0)), .nilsl, .nilsl, .d (.v (.int .i64 0)), .d (.v (.int .i64 0)), .nilsl] [(0, (1, .lit (.c (.d (.v (.int .i64 3)))))), (16, (3, .slot 27))]⟩,
        ⟨some 29, none, .buildSlice 59 19 1 [.v (.int .i64 0), .v (.int .u32 0), .v (.int .i64 0), .v (.int .u32 0), .v (.bool false), .sl [], .v (.int .i64 0), .v (.int .i64 0), .sl [], .v (.int .u32 0), .v (.int .u32 0), .v (.int .u32 0), .v (.int .u32 0), .v (.int .u32 0), .sl [], .sl [], .v (.int .i64 0), .v (.int .i64 0), .sl []] [(0, .slot 28)]⟩,
        ⟨some 30, none, .fieldAddr (.slot 8) 0⟩,
        ⟨none, none, .store (.slot 30) (.slot 29) 1⟩])
       .skip))
     (.seq
      (.draw [(3, 4)] [⟨some 31, none, .fieldAddr (.slot 3) 4⟩,
       ⟨some 32, none, .load (.slot 31) false 1 false⟩,
       ⟨some 33, none, .build [.d (.v (.int .i64 0)), .d (.v (.int .i64 0)), .d (.v (.int .i64 0)), .d (.v (.int .i64 0)), .d (.v (.int .i64 0)), .d (.v (.int .u32 0)), .d (.v (.int .i64 0)), .d (.v (.int .u32 0)), .d (.v (.bool false))] [(4, (1, .slot 32))]⟩,
       ⟨some 34, none, .load (.slot 8) true 5 false⟩,
       ⟨none, none, .store (.slot 6) (.slot 33) 9⟩,
       ⟨none, none, .store (.slot 7) (.slot 34) 5⟩])
      .ret))))

theorem F25 : Fn Try.prog 25 Try.f25 35 [] [.cell 6 true 9, .cell 7 true 5] c25 where
  hm := by kernel_rfl
  hf := Try.func25
  hb := by kernel_rfl
  hc := by kernel_rfl
  hts := by kernel_rfl
  hnd := by decide
  hn := Nat.le_of_eq (by kernel_rfl)

def c28 : VC :=
  (.seq
   (.region [⟨some 2, none, .box 5 11 (.slot 0)⟩,
    ⟨some 3, none, .box 7 11 (.slot 1)⟩,
    ⟨some 4, none, .move (.lit (.c (.d (.v (.bool false))))) true⟩])
   (.seq
    (.region [⟨some 5, none, .fieldAddr (.slot 2) 0⟩,
     ⟨some 6, none, .load (.slot 5) false 1 false⟩,
     ⟨some 7, none, .fieldAddr (.slot 3) 0⟩,
     ⟨some 8, none, .load (.slot 7) false 1 false⟩,
     ⟨some 9, none, .call 35 [.slot 6, .slot 8]⟩,
     ⟨some 10, none, .move (.slot 9) false⟩,
     ⟨some 11, some (10, true), .fieldAddr (.slot 2) 10⟩,
     ⟨some 12, some (10, true), .load (.slot 11) false 1 false⟩,
     ⟨some 13, some (10, true), .fieldAddr (.slot 3) 10⟩,
     ⟨some 14, some (10, true), .load (.slot 13) false 1 false⟩,
     ⟨some 15, some (10, true), .call 35 [.slot 12, .slot 14]⟩,
     ⟨some 16, none, .pick (.slot 10) (.slot 15) (.lit (.c (.d (.v (.bool false)))))⟩,
     ⟨some 17, none, .move (.slot 16) false⟩,
     ⟨some 18, some (17, true), .fieldAddr (.slot 2) 1⟩,
     ⟨some 19, some (17, true), .load (.slot 18) true 9 false⟩,
     ⟨some 20, some (17, true), .fieldAddr (.slot 3) 1⟩,
     ⟨some 21, some (17, true), .load (.slot 20) true 9 false⟩,
     ⟨some 22, some (17, true), .call 36 [.slot 19, .slot 21]⟩,
     ⟨some 23, none, .pick (.slot 17) (.slot 22) (.lit (.c (.d (.v (.bool false)))))⟩,
     ⟨some 4, none, .move (.slot 23) true⟩])
    .ret))

theorem F28 : Fn Try.prog 28 Try.f28 24 [] [.t 4] c28 where
  hm := by kernel_rfl
  hf := Try.func28
  hb := by kernel_rfl
  hc := by kernel_rfl
  hts := by kernel_rfl
  hnd := by decide
  hn := Nat.le_of_eq (by kernel_rfl)

def c29 : VC :=
  (.seq
   (.region [⟨some 3, none, .box 7 6 (.slot 0)⟩,
    ⟨some 4, none, .box 9 9 (.slot 1)⟩,
    ⟨some 5, none, .box 11 23 (.slot 2)⟩,
    ⟨some 6, none, .alloc 13 [.d (.v (.int .i64 0)), .d (.v (.int .i64 0)), .d (.v (.int .i64 0)), .d (.v (.int .i64 0)), .d (.v (.int .i64 0)), .d (.v (.int .u32 0)), .d (.v (.int .i64 0)), .d (.v (.int .u32 0)), .d (.v (.bool false))]⟩,
    ⟨some 7, none, .alloc 15 [.nilsl, .d (.v (.bool false)), .d (.v (.bool false)), .d (.v (.bool false)), .d (.v (.bool false))]⟩])
   (.seq
    (.region [⟨some 9, none, .load (.slot 3) true 6 false⟩,
     ⟨some 10, none, .load (.slot 4) true 9 false⟩,
     ⟨some 11, none, .build [.d (.v (.int .u32 0)), .d (.v (.int .u32 0)), .d (.v (.int .u32 0)), .d (.v (.int .i64 0)), .d (.v (.int .i64 0)), .d (.v (.bool false)), .d (.v (.int .i64 0)), .d (.v (.int .i64 0)), .d (.v (.int .i64 0)), .d (.v (.int .i64 0)), .d (.v (.int .i64 0)), .d (.v (.int .u32 0)), .d (.v (.int .i64 0)), .d (.v (.int .u32 0)), .d (.v (.bool false)), .nilsl, .d (.v (.bool false)), .d (.v (.bool false)), .d (.v (.bool false)), .d (.v (.bool false))] [(0, (6, .slot 9)), (6, (9, .slot 10))]⟩,
     ⟨some 12, none, .box 25 20 (.slot 11)⟩,
     ⟨some 8, none, .move (.slot 12) true⟩])
    (.seq
     (.region [⟨some 13, none, .move (.slot 8) false⟩,
      ⟨some 14, none, .load (.slot 5) true 23 false⟩,
      ⟨some 15, none, .call 37 [.slot 13, .slot 14]⟩])
     (.seq
      (.draw [(7, 8)] [⟨some 16, none, .move (.slot 8) false⟩,
       ⟨some 17, none, .nilCheck (.slot 16)⟩,
       ⟨some 18, none, .fieldAddr (.slot 17) 6⟩,
       ⟨some 19, none, .load (.slot 18) true 9 false⟩,
       ⟨some 20, none, .move (.slot 8) false⟩,
       ⟨some 21, none, .nilCheck (.slot 20)⟩,
       ⟨some 22, none, .fieldAddr (.slot 21) 15⟩,
       ⟨some 23, none, .load (.slot 22) true 5 false⟩,
       ⟨none, none, .store (.slot 6) (.slot 19) 9⟩,
       ⟨none, none, .store (.slot 7) (.slot 23) 5⟩])
      .ret))))

theorem F29 : Fn Try.prog 29 Try.f29 24 [] [.cell 6 true 9, .cell 7 true 5] c29 where
  hm := by kernel_rfl
  hf := Try.func29
  hb := by kernel_rfl
  hc := by kernel_rfl
  hts := by kernel_rfl
  hnd := by decide
  hn := Nat.le_of_eq (by kernel_rfl)

def c31 : VC :=
  (.seq
   (.region [⟨some 0, none, .alloc 1 [.d (.v (.int .i64 0)), .d (.v (.int .u32 0)), .d (.v (.int .i64 0)), .d (.v (.int .u32 0)), .d (.v (.bool false)), .nilsl, .d (.v (.int .i64 0)), .d (.v (.int .i64 0)), .nilsl, .d (.v (.int .u32 0)), .d (.v (.int .u32 0)), .d (.v (.int .u32 0)), .d (.v (.int .u32 0)), .d (.v (.int .u32 0)), .nilsl, .nilsl, .d (.v (.int .i64 0)), .d (.v (.int .i64 0)), .nilsl]⟩])
   (.seq
    (.region [⟨some 1, none, .build [.d (.v (.int .i64 0)), .d (.v (.int .u32 0)), .d (.v (.int .i64 0)), .d (.v (.int .u32 0)), .d (.v (.bool false)), .nilsl, .d (.v (.int .i64 0)), .d (.v (.int .i64 0)), .nilsl, .d (.v (.int .u32 0)), .d (.v (.int .u32 0)), .d (.v (.int .u32 0)), .d (.v (.int .u32 0)), .d (.v (.int .u32 0)), .nilsl, .nilsl, .d (.v (.int .i64 0)), .d (.v (.int .i64 0)), .nilsl] [(0, (1, .lit (.c (.d (.v (.int .i64 4))))))]⟩,
     ⟨none, none, .store (.slot 0) (.slot 1) 19⟩])
    .ret))

theorem F31 : Fn Try.prog 31 Try.f31 2 [] [.cell 0 true 19] c31 where
  hm := by kernel_rfl
  hf := Try.func31
  hb := by kernel_rfl
  hc := by kernel_rfl
  hts := by kernel_rfl
  hnd := by decide
  hn := Nat.le_of_eq (by kernel_rfl)

def c32 : VC :=
  (.seq
   (.region [⟨some 2, none, .move (.lit (.c (.d (.v (.int .i64 0))))) true⟩])
   (.seq
    (.seq
     (.region [⟨some 3, none, .move (.slot 0) false⟩,
      ⟨some 4, none, .bin false .lss (.slot 3) (.lit (.c (.d (.v (.int .i64 3)))))⟩])
     (.cond (.slot 4)
      (.seq
       (.region [⟨some 2, none, .move (.lit (.c (.d (.v (.int .i64 0))))) true⟩])
       .ret)
      .skip))
    (.seq
     (.region [⟨some 5, none, .move (.slot 0) false⟩,
      ⟨some 6, none, .bin false .quo (.slot 5) (.lit (.c (.d (.v (.int .i64 3)))))⟩,
      ⟨some 2, none, .move (.slot 6) true⟩])
     .ret)))

theorem F32 : Fn Try.prog 32 Try.f32 7 [] [.t 2] c32 where
  hm := by kernel_rfl
  hf := Try.func32
  hb := by kernel_rfl
  hc := by kernel_rfl
  hts := by kernel_rfl
  hnd := by decide
  hn := Nat.le_of_eq (by kernel_rfl)

def c33 : VC :=
  (.seq
   (.region [⟨some 3, none, .box 7 4 (.slot 0)⟩,
    ⟨some 6, none, .alloc 13 [.d (.v (.int .i64 0)), .d (.v (.int .i64 0)), .nilsl]⟩])
   (.seq
    (.seq
     (.region [⟨some 7, none, .fieldAddr (.slot 3) 0⟩,
      ⟨some 8, none, .load (.slot 7) false 1 false⟩,
      ⟨some 9, none, .move (.slot 1) false⟩,
      ⟨some 10, none, .bin false .neq (.slot 8) (.slot 9)⟩])
     (.cond (.slot 10)
      (.seq
       (.region [⟨some 11, none, .build [.d (.v (.int .i64 0)), .d (.v (.int .i64 0)), .nilsl] [(0, (1, .lit (.c (.d (.v (.int .i64 2)))))), (1, (1, .lit (.c (.d (.v (.int .i64 2))))))]⟩,
        ⟨none, none, .store (.slot 6) (.slot 11) 3⟩])
       .ret)
      .skip))
    (.seq
     (.seq
      (.region [⟨some 12, none, .fieldAddr (.slot 3) 2⟩,
       ⟨some 13, none, .load (.slot 12) false 1 false⟩,
       ⟨some 14, none, .move (.slot 2) false⟩,
       ⟨some 15, none, .bin false .eql (.slot 13) (.slot 14)⟩])
      (.cond (.slot 15)
       (.seq
        (.region [⟨some 16, none, .build [.d (.v (.int .i64 0)), .d (.v (.int .i64 0)), .nilsl] [(0, (1, .lit (.c (.d (.v (.int .i64 2)))))), (1, (1, .lit (.c (.d (.v (.int .i64 3))))))]⟩,
         ⟨none, none, .store (.slot 6) (.slot 16) 3⟩])
        .ret)
       .skip))
     (.seq
      (.seq
       (.region [⟨some 17, none, .fieldAddr (.slot 3) 3⟩,
        ⟨some 18, none, .load (.slot 17) false 1 false⟩,
        ⟨some 19, none, .un .not (.slot 18)⟩])
       (.cond (.slot 19)
        (.seq
         (.region [⟨some 20, none, .buildSlice 5 1 2 [.v (.int .u8 0)] [(0, .lit (.c (.d (.v (.int .u8 65))))), (1, .lit (.c (.d (.v (.int .u8 4)))))]⟩,
          ⟨some 21, none, .move (.slot 1) false⟩,
          ⟨some 22, none, .conv .u64 (.slot 21)⟩,
          ⟨some 23, none, .call 38 [.slot 22, .lit (.c (.d (.v (.int .i64 4))))]⟩,
          ⟨some 24, none, .append false 5 1 1 (.slot 20) (.slot 23)⟩,
          ⟨some 25, none, .build [.d (.v (.int .i64 0)), .d (.v (.int .i64 0)), .nilsl] [(0, (1, .lit (.c (.d (.v (.int .i64 2)))))), (1, (1, .lit (.c (.d (.v (.int .i64 7)))))), (2, (1, .slot 24))]⟩,
          ⟨none, none, .store (.slot 6) (.slot 25) 3⟩])
         .ret)
        .skip))
      (.seq
       (.region [⟨some 26, none, .build [.d (.v (.int .i64 0)), .d (.v (.int .i64 0)), .nilsl] []⟩,
        ⟨none, none, .store (.slot 6) (.slot 26) 3⟩])
       .ret)))))

theorem F33 : Fn Try.prog 33 Try.f33 27 [] [.cell 6 true 3] c33 where
  hm := by kernel_rfl
  hf := Try.func33
  hb := by kernel_rfl
  hc := by kernel_rfl
  hts := by kernel_rfl
  hnd := by decide
  hn := Nat.le_of_eq (by kernel_rfl)

def c34 : VC :=
  (.seq
   (.region [⟨some 4, none, .move (.lit (.c (.d (.v (.int .i64 0))))) true⟩])
   (.seq
    (.seq
     (.region [⟨some 5, none, .move (.slot 0) false⟩,
      ⟨some 6, none, .bin false .lss (.slot 5) (.lit (.c (.d (.v (.int .i64 1)))))⟩,
      ⟨some 7, none, .move (.slot 6) false⟩,
      ⟨some 8, some (7, false), .move (.slot 1) false⟩,
      ⟨some 9, some (7, false), .bin false .lss (.slot 8) (.lit (.c (.d (.v (.int .i64 1)))))⟩,
      ⟨some 10, none, .pick (.slot 7) (.lit (.c (.d (.v (.bool true))))) (.slot 9)⟩])
     (.cond (.slot 10)
      (.seq
       (.region [⟨some 4, none, .move (.lit (.c (.d (.v (.int .i64 0))))) true⟩])
       .ret)
      .skip))
    (.seq
     (.seq
      (.region [⟨some 11, none, .move (.slot 0) false⟩,
       ⟨some 12, none, .move (.slot 1) false⟩,
       ⟨some 13, none, .bin false .lss (.slot 11) (.slot 12)⟩])
      (.cond (.slot 13)
       (.seq
        (.region [⟨some 14, none, .move (.slot 0) false⟩,
         ⟨some 4, none, .move (.slot 14) true⟩])
        .ret)
       .skip))
     (.seq
      (.region [⟨some 15, none, .move (.slot 1) false⟩,
       ⟨some 4, none, .move (.slot 15) true⟩])
      .ret))))

theorem F34 : Fn Try.prog 34 Try.f34 16 [] [.t 4] c34 where
  hm := by kernel_rfl
  hf := Try.func34
  hb := by kernel_rfl
  hc := by kernel_rfl
  hts := by kernel_rfl
  hnd := by decide
  hn := Nat.le_of_eq (by kernel_rfl)

def c35 : VC :=
  (.seq
   (.region [⟨some 4, none, .move (.lit (.c (.d (.v (.bool false))))) true⟩])
   (.seq
    (.seq
     (.region [⟨some 6, none, .move (.slot 0) false⟩,
      ⟨some 7, none, .len (.slot 6)⟩,
      ⟨some 8, none, .move (.slot 1) false⟩,
      ⟨some 9, none, .len (.slot 8)⟩,
      ⟨some 10, none, .bin false .neq (.slot 7) (.slot 9)⟩])
     (.cond (.slot 10)
      (.seq
       (.region [⟨some 4, none, .move (.lit (.c (.d (.v (.bool false))))) true⟩])
       .ret)
      .skip))
    (.seq
     (.seq
      (.region [⟨some 5, none, .move (.lit (.c (.d (.v (.int .i64 0))))) true⟩])
      (.block 0
       (.loop
        (.seq
         (.seq
          (.region [⟨some 11, none, .move (.slot 5) false⟩,
           ⟨some 12, none, .move (.slot 0) false⟩,
           ⟨some 13, none, .len (.slot 12)⟩,
           ⟨some 14, none, .bin false .lss (.slot 11) (.slot 13)⟩])
          (.cond (.slot 14)
           .skip
           (.exit 0)))
         (.seq
          (.block 1
           (.seq
            (.draw [] [⟨some 17, none, .move (.slot 0) false⟩,
             ⟨some 18, none, .move (.slot 5) false⟩,
             ⟨some 19, none, .indexAddr (.slot 17) (.slot 18) 2⟩,
             ⟨some 20, none, .load (.slot 19) true 2 false⟩,
             ⟨some 21, none, .move (.slot 1) false⟩,
             ⟨some 22, none, .move (.slot 5) false⟩,
             ⟨some 23, none, .indexAddr (.slot 21) (.slot 22) 2⟩,
             ⟨some 24, none, .load (.slot 23) true 2 false⟩,
             ⟨some 25, none, .eqAgg true [1, 1] (.slot 20) (.slot 24)⟩])
            (.cond (.slot 25)
             (.seq
              (.region [⟨some 4, none, .move (.lit (.c (.d (.v (.bool false))))) true⟩])
              .ret)
             .skip)))
          (.region [⟨some 15, none, .move (.slot 5) false⟩,
           ⟨some 16, none, .bin false .add (.slot 15) (.lit (.c (.d (.v (.int .i64 1)))))⟩,
           ⟨some 5, none, .move (.slot 16) true⟩]))))))
     (.seq
      (.region [⟨some 4, none, .move (.lit (.c (.d (.v (.bool true))))) true⟩])
      .ret))))

theorem F35 : Fn Try.prog 35 Try.f35 26 [] [.t 4] c35 where
  hm := by kernel_rfl
  hf := Try.func35
  hb := by kernel_rfl
  hc := by kernel_rfl
  hts := by kernel_rfl
  hnd := by decide
  hn := Nat.le_of_eq (by kernel_rfl)

def c36 : VC :=
  (.seq
   (.region [⟨some 2, none, .box 5 9 (.slot 0)⟩,
    ⟨some 3, none, .box 7 9 (.slot 1)⟩,
    ⟨some 4, none, .move (.lit (.c (.d (.v (.bool false))))) true⟩])
   (.seq
    (.region [⟨some 5, none, .fieldAddr (.slot 2) 0⟩,
     ⟨some 6, none, .load (.slot 5) false 1 false⟩,
     ⟨some 7, none, .fieldAddr (.slot 3) 0⟩,
     ⟨some 8, none, .load (.slot 7) false 1 false⟩,
     ⟨some 9, none, .bin false .eql (.slot 6) (.slot 8)⟩,
     ⟨some 10, none, .move (.slot 9) false⟩,
     ⟨some 11, some (10, true), .fieldAddr (.slot 2) 1⟩,
     ⟨some 12, some (10, true), .load (.slot 11) false 1 false⟩,
     ⟨some 13, some (10, true), .fieldAddr (.slot 3) 1⟩,
     ⟨some 14, some (10, true), .load (.slot 13) false 1 false⟩,
     ⟨some 15, some (10, true), .bin false .eql (.slot 12) (.slot 14)⟩,
     ⟨some 16, none, .pick (.slot 10) (.slot 15) (.lit (.c (.d (.v (.bool false)))))⟩,
     ⟨some 17, none, .move (.slot 16) false⟩,
     ⟨some 18, some (17, true), .fieldAddr (.slot 2) 2⟩,
     ⟨some 19, some (17, true), .load (.slot 18) false 1 false⟩,
     ⟨some 20, some (17, true), .fieldAddr (.slot 3) 2⟩,
     ⟨some 21, some (17, true), .load (.slot 20) false 1 false⟩,
     ⟨some 22, some (17, true), .call 39 [.slot 19, .slot 21]⟩,
     ⟨some 23, none, .pick (.slot 17) (.slot 22) (.lit (.c (.d (.v (.bool false)))))⟩,
     ⟨some 24, none, .move (.slot 23) false⟩,
     ⟨some 25, some (24, true), .fieldAddr (.slot 2) 3⟩,
     ⟨some 26, some (24, true), .load (.slot 25) false 1 false⟩,
     ⟨some 27, some (24, true), .fieldAddr (.slot 3) 3⟩,
     ⟨some 28, some (24, true), .load (.slot 27) false 1 false⟩,
     ⟨some 29, some (24, true), .bin false .eql (.slot 26) (.slot 28)⟩,
     ⟨some 30, none, .pick (.slot 24) (.slot 29) (.lit (.c (.d (.v (.bool false)))))⟩,
     ⟨some 31, none, .move (.slot 30) false⟩,
     ⟨some 32, some (31, true), .fieldAddr (.slot 2) 4⟩,
     ⟨some 33, some (31, true), .load (.slot 32) false 1 false⟩,
     ⟨some 34, some (31, true), .fieldAddr (.slot 3) 4⟩,
     ⟨some 35, some (31, true), .load (.slot 34) false 1 false⟩,
     ⟨some 36, some (31, true), .bin false .eql (.slot 33) (.slot 35)⟩,
     ⟨some 37, none, .pick (.slot 31) (.slot 36) (.lit (.c (.d (.v (.bool false)))))⟩,
     ⟨some 38, none, .move (.slot 37) false⟩,
     ⟨some 39, some (38, true), .fieldAddr (.slot 2) 5⟩,
     ⟨some 40, some (38, true), .load (.slot 39) false 1 false⟩,
     ⟨some 41, some (38, true), .fieldAddr (.slot 3) 5⟩,
     ⟨some 42, some (38, true), .load (.slot 41) false 1 false⟩,
     ⟨some 43, some (38, true), .bin false .eql (.slot 40) (.slot 42)⟩,
     ⟨some 44, none, .pick (.slot 38) (.slot 43) (.lit (.c (.d (.v (.bool false)))))⟩,
     ⟨some 45, none, .move (.slot 44) false⟩,
     ⟨some 46, some (45, true), .fieldAddr (.slot 2) 6⟩,
     ⟨some 47, some (45, true), .load (.slot 46) false 1 false⟩,
     ⟨some 48, some (45, true), .fieldAddr (.slot 3) 6⟩,
     ⟨some 49, some (45, true), .load (.slot 48) false 1 false⟩,
     ⟨some 50, some (45, true), .bin false .eql (.slot 47) (.slot 49)⟩,
     ⟨some 51, none, .pick (.slot 45) (.slot 50) (.lit (.c (.d (.v (.bool false)))))⟩,
     ⟨some 52, none, .move (.slot 51) false⟩,
     ⟨some 53, some (52, true), .fieldAddr (.slot 2) 7⟩,
     ⟨some 54, some (52, true), .load (.slot 53) false 1 false⟩,
     ⟨some 55, some (52, true), .fieldAddr (.slot 3) 7⟩,
     ⟨some 56, some (52, true), .load (.slot 55) false 1 false⟩,
     ⟨some 57, some (52, true), .bin false .eql (.slot 54) (.slot 56)⟩,
     ⟨some 58, none, .pick (.slot 52) (.slot 57) (.lit (.c (.d (.v (.bool false)))))⟩,
     ⟨some 59, none, .move (.slot 58) false⟩,
     ⟨some 60, some (59, true), .fieldAddr (.slot 2) 8⟩,
     ⟨some 61, some (59, true), .load (.slot 60) false 1 false⟩,
     ⟨some 62, some (59, true), .fieldAddr (.slot 3) 8⟩,
     ⟨some 63, some (59, true), .load (.slot 62) false 1 false⟩,
     ⟨some 64, some (59, true), .call 40 [.slot 61, .slot 63]⟩,
     ⟨some 65, none, .pick (.slot 59) (.slot 64) (.lit (.c (.d (.v (.bool false)))))⟩,
     ⟨some 4, none, .move (.slot 65) true⟩])
    .ret))

theorem F36 : Fn Try.prog 36 Try.f36 66 [] [.t 4] c36 where
  hm := by kernel_rfl
  hf := Try.func36
  hb := by kernel_rfl
  hc := by kernel_rfl
  hts := by kernel_rfl
  hnd := by decide
  hn := Nat.le_of_eq (by kernel_rfl)

def c38 : VC :=
  (.seq
   (.region [⟨some 4, none, .move (.lit (.c .nilsl)) true⟩])
   (.seq
    (.region [⟨some 7, none, .buildSlice 5 1 0 [.v (.int .u8 0)] []⟩,
     ⟨some 5, none, .move (.slot 7) true⟩])
    (.seq
     (.seq
      (.region [⟨some 6, none, .move (.lit (.c (.d (.v (.int .i64 0))))) true⟩])
      (.block 0
       (.loop
        (.seq
         (.seq
          (.region [⟨some 8, none, .move (.slot 6) false⟩,
           ⟨some 9, none, .move (.slot 1) false⟩,
           ⟨some 10, none, .bin false .lss (.slot 8) (.slot 9)⟩])
          (.cond (.slot 10)
           .skip
           (.exit 0)))
         (.seq
          (.block 1
           (.seq
            (.region [⟨some 13, none, .move (.slot 0) false⟩,
             ⟨some 14, none, .bin false .rem (.slot 13) (.lit (.c (.d (.v (.int .u64 256)))))⟩,
             ⟨some 15, none, .conv .u8 (.slot 14)⟩,
             ⟨some 16, none, .buildSlice 5 1 1 [.v (.int .u8 0)] [(0, .slot 15)]⟩,
             ⟨some 17, none, .move (.slot 5) false⟩,
             ⟨some 18, none, .append false 5 1 1 (.slot 16) (.slot 17)⟩,
             ⟨some 5, none, .move (.slot 18) true⟩])
            (.region [⟨some 19, none, .move (.slot 0) false⟩,
             ⟨some 20, none, .bin false .quo (.slot 19) (.lit (.c (.d (.v (.int .u64 256)))))⟩,
             ⟨some 0, none, .move (.slot 20) true⟩])))
          (.region [⟨some 11, none, .move (.slot 6) false⟩,
           ⟨some 12, none, .bin false .add (.slot 11) (.lit (.c (.d (.v (.int .i64 1)))))⟩,
           ⟨some 6, none, .move (.slot 12) true⟩]))))))
     (.seq
      (.region [⟨some 21, none, .move (.slot 5) false⟩,
       ⟨some 4, none, .move (.slot 21) true⟩])
      .ret))))

theorem F38 : Fn Try.prog 38 Try.f38 22 [] [.t 4] c38 where
  hm := by kernel_rfl
  hf := Try.func38
  hb := by kernel_rfl
  hc := by kernel_rfl
  hts := by kernel_rfl
  hnd := by decide
  hn := Nat.le_of_eq (by kernel_rfl)

def c39 : VC :=
  (.seq
   (.region [⟨some 4, none, .move (.lit (.c (.d (.v (.bool false))))) true⟩])
   (.seq
    (.seq
     (.region [⟨some 6, none, .move (.slot 0) false⟩,
      ⟨some 7, none, .len (.slot 6)⟩,
      ⟨some 8, none, .move (.slot 1) false⟩,
      ⟨some 9, none, .len (.slot 8)⟩,
      ⟨some 10, none, .bin false .neq (.slot 7) (.slot 9)⟩])
     (.cond (.slot 10)
      (.seq
       (.region [⟨some 4, none, .move (.lit (.c (.d (.v (.bool false))))) true⟩])
       .ret)
      .skip))
    (.seq
     (.seq
      (.region [⟨some 5, none, .move (.lit (.c (.d (.v (.int .i64 0))))) true⟩])
      (.block 0
       (.loop
        (.seq
         (.seq
          (.region [⟨some 11, none, .move (.slot 5) false⟩,
           ⟨some 12, none, .move (.slot 0) false⟩,
           ⟨some 13, none, .len (.slot 12)⟩,
           ⟨some 14, none, .bin false .lss (.slot 11) (.slot 13)⟩])
          (.cond (.slot 14)
           .skip
           (.exit 0)))
         (.seq
          (.block 1
           (.seq
            (.draw [] [⟨some 17, none, .move (.slot 0) false⟩,
             ⟨some 18, none, .move (.slot 5) false⟩,
             ⟨some 19, none, .indexAddr (.slot 17) (.slot 18) 2⟩,
             ⟨some 20, none, .fieldAddr (.slot 19) 0⟩,
             ⟨some 21, none, .load (.slot 20) false 1 false⟩,
             ⟨some 22, none, .move (.slot 1) false⟩,
             ⟨some 23, none, .move (.slot 5) false⟩,
             ⟨some 24, none, .indexAddr (.slot 22) (.slot 23) 2⟩,
             ⟨some 25, none, .fieldAddr (.slot 24) 0⟩,
             ⟨some 26, none, .load (.slot 25) false 1 false⟩,
             ⟨some 27, none, .bin false .neq (.slot 21) (.slot 26)⟩,
             ⟨some 28, none, .move (.slot 27) false⟩,
             ⟨some 29, some (28, false), .move (.slot 0) false⟩,
             ⟨some 30, some (28, false), .move (.slot 5) false⟩,
             ⟨some 31, some (28, false), .indexAddr (.slot 29) (.slot 30) 2⟩,
             ⟨some 32, some (28, false), .fieldAddr (.slot 31) 1⟩,
             ⟨some 33, some (28, false), .load (.slot 32) false 1 false⟩,
             ⟨some 34, some (28, false), .move (.slot 1) false⟩,
             ⟨some 35, some (28, false), .move (.slot 5) false⟩,
             ⟨some 36, some (28, false), .indexAddr (.slot 34) (.slot 35) 2⟩,
             ⟨some 37, some (28, false), .fieldAddr (.slot 36) 1⟩,
             ⟨some 38, some (28, false), .load (.slot 37) false 1 false⟩,
             ⟨some 39, some (28, false), .call 40 [.slot 33, .slot 38]⟩,
             ⟨some 40, some (28, false), .un .not (.slot 39)⟩,
             ⟨some 41, none, .pick (.slot 28) (.lit (.c (.d (.v (.bool true))))) (.slot 40)⟩])
            (.cond (.slot 41)
             (.seq
              (.region [⟨some 4, none, .move (.lit (.c (.d (.v (.bool false))))) true⟩])
              .ret)
             .skip)))
          (.region [⟨some 15, none, .move (.slot 5) false⟩,
           ⟨some 16, none, .bin false .add (.slot 15) (.lit (.c (.d (.v (.int .i64 1)))))⟩,
           ⟨some 5, none, .move (.slot 16) true⟩]))))))
     (.seq
      (.region [⟨some 4, none, .move (.lit (.c (.d (.v (.bool true))))) true⟩])
      .ret))))

theorem F39 : Fn Try.prog 39 Try.f39 42 [] [.t 4] c39 where
  hm := by kernel_rfl
  hf := Try.func39
  hb := by kernel_rfl
  hc := by kernel_rfl
  hts := by kernel_rfl
  hnd := by decide
  hn := Nat.le_of_eq (by kernel_rfl)

def c40 : VC :=
  (.seq
   (.region [⟨some 4, none, .move (.lit (.c (.d (.v (.bool false))))) true⟩])
   (.seq
    (.seq
     (.region [⟨some 6, none, .move (.slot 0) false⟩,
      ⟨some 7, none, .len (.slot 6)⟩,
      ⟨some 8, none, .move (.slot 1) false⟩,
      ⟨some 9, none, .len (.slot 8)⟩,
      ⟨some 10, none, .bin false .neq (.slot 7) (.slot 9)⟩])
     (.cond (.slot 10)
      (.seq
       (.region [⟨some 4, none, .move (.lit (.c (.d (.v (.bool false))))) true⟩])
       .ret)
      .skip))
    (.seq
     (.seq
      (.region [⟨some 5, none, .move (.lit (.c (.d (.v (.int .i64 0))))) true⟩])
      (.block 0
       (.loop
        (.seq
         (.seq
          (.region [⟨some 11, none, .move (.slot 5) false⟩,
           ⟨some 12, none, .move (.slot 0) false⟩,
           ⟨some 13, none, .len (.slot 12)⟩,
           ⟨some 14, none, .bin false .lss (.slot 11) (.slot 13)⟩])
          (.cond (.slot 14)
           .skip
           (.exit 0)))
         (.seq
          (.block 1
           (.seq
            (.draw [] [⟨some 17, none, .move (.slot 0) false⟩,
             ⟨some 18, none, .move (.slot 5) false⟩,
             ⟨some 19, none, .indexAddr (.slot 17) (.slot 18) 1⟩,
             ⟨some 20, none, .load (.slot 19) false 1 false⟩,
             ⟨some 21, none, .move (.slot 1) false⟩,
             ⟨some 22, none, .move (.slot 5) false⟩,
             ⟨some 23, none, .indexAddr (.slot 21) (.slot 22) 1⟩,
             ⟨some 24, none, .load (.slot 23) false 1 false⟩,
             ⟨some 25, none, .bin false .neq (.slot 20) (.slot 24)⟩])
            (.cond (.slot 25)
             (.seq
              (.region [⟨some 4, none, .move (.lit (.c (.d (.v (.bool false))))) true⟩])
              .ret)
             .skip)))
          (.region [⟨some 15, none, .move (.slot 5) false⟩,
           ⟨some 16, none, .bin false .add (.slot 15) (.lit (.c (.d (.v (.int .i64 1)))))⟩,
           ⟨some 5, none, .move (.slot 16) true⟩]))))))
     (.seq
      (.region [⟨some 4, none, .move (.lit (.c (.d (.v (.bool true))))) true⟩])
      .ret))))

theorem F40 : Fn Try.prog 40 Try.f40 26 [] [.t 4] c40 where
  hm := by kernel_rfl
  hf := Try.func40
  hb := by kernel_rfl
  hc := by kernel_rfl
  hts := by kernel_rfl
  hnd := by decide
  hn := Nat.le_of_eq (by kernel_rfl)

end Go.V

