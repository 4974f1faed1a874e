/- The value machine: the code of functions, as its compiler takes it (printed by a program). -/
import Derived.Test.YtimdfdmdogeiaaaV25
import Derived.Test.YtimdfdmdogeiaaaProg
set_option linter.all false
set_option linter.unusedSimpArgs false
set_option linter.unusedVariables false
namespace Go.V
open Go Go.Proofs

def c3 : VC :=
  (.seq
   (.region [⟨some 3, none, .box 7 6 (.slot 0)⟩,
    ⟨some 4, none, .box 9 9 (.slot 1)⟩,
    ⟨some 5, none, .box 11 5 (.slot 2)⟩,
    ⟨some 6, none, .move (.lit (.c (.d (.v (.bool false))))) true⟩])
   (.seq
    (.seq
     (.region [⟨some 17, none, .fieldAddr (.slot 4) 2⟩,
      ⟨some 18, none, .load (.slot 17) false 1 false⟩,
      ⟨some 19, none, .bin false .lss (.slot 18) (.lit (.c (.d (.v (.int .i64 0)))))⟩,
      ⟨some 20, none, .move (.slot 19) false⟩,
      ⟨some 21, some (20, false), .fieldAddr (.slot 4) 3⟩,
      ⟨some 22, some (20, false), .load (.slot 21) false 1 false⟩,
      ⟨some 23, some (20, false), .bin false .lss (.slot 22) (.lit (.c (.d (.v (.int .i64 0)))))⟩,
      ⟨some 24, none, .pick (.slot 20) (.lit (.c (.d (.v (.bool true))))) (.slot 23)⟩,
      ⟨some 25, none, .move (.slot 24) false⟩,
      ⟨some 26, some (25, false), .fieldAddr (.slot 4) 4⟩,
      ⟨some 27, some (25, false), .load (.slot 26) false 1 false⟩,
      ⟨some 28, some (25, false), .bin false .lss (.slot 27) (.lit (.c (.d (.v (.int .i64 0)))))⟩,
      ⟨some 29, none, .pick (.slot 25) (.lit (.c (.d (.v (.bool true))))) (.slot 28)⟩])
     (.cond (.slot 29)
      (.seq
       (.region [⟨some 30, none, .call 4 []⟩,
        ⟨some 6, none, .move (.slot 30) true⟩])
       .ret)
      .skip))
    (.seq
     (.region [⟨some 32, none, .load (.slot 3) true 6 false⟩,
      ⟨some 33, none, .load (.slot 4) true 9 false⟩,
      ⟨some 34, none, .fieldAddr (.slot 5) 0⟩,
      ⟨some 35, none, .load (.slot 34) false 1 false⟩,
      ⟨some 36, none, .fieldAddr (.slot 5) 1⟩,
      ⟨some 37, none, .load (.slot 36) true 4 false⟩,
      ⟨some 38, none, .call 5 [.slot 32, .slot 33, .slot 35, .slot 37]⟩,
      ⟨some 31, none, .move (.slot 38) false⟩,
      ⟨some 39, none, .extract (.slot 31) 0 false⟩,
      ⟨some 40, none, .extract (.slot 31) 1 false⟩,
      ⟨some 8, none, .alloc 17 [.d (.v (.int .i64 0)), .d (.v (.int .i64 0)), .nilsl]⟩,
      ⟨some 7, none, .move (.slot 39) true⟩,
      ⟨none, none, .store (.slot 8) (.slot 40) 3⟩])
     (.seq
      (.region [⟨some 41, none, .build [.d (.v (.int .i64 0)), .d (.v (.int .i64 0)), .nilsl] []⟩,
       ⟨some 9, none, .alloc 19 [.d (.v (.int .i64 0)), .d (.v (.int .i64 0)), .nilsl]⟩,
       ⟨none, none, .store (.slot 9) (.slot 41) 3⟩])
      (.seq
       (.seq
        (.region [⟨some 42, none, .load (.slot 4) true 9 false⟩,
         ⟨some 43, none, .call 6 [.slot 42]⟩])
        (.cond (.slot 43)
         (.region [⟨some 44, none, .build [.d (.v (.int .i64 0)), .d (.v (.int .i64 0)), .nilsl] [(0, (1, .lit (.c (.d (.v (.int .i64 6)))))), (1, (1, .lit (.c (.d (.v (.int .i64 7))))))]⟩,
          ⟨none, none, .store (.slot 9) (.slot 44) 3⟩])
         .skip))
       (.seq
        (.seq
         (.region [⟨some 45, none, .move (.slot 7) false⟩,
          ⟨some 46, none, .load (.slot 3) true 6 false⟩,
          ⟨some 47, none, .load (.slot 4) true 9 false⟩,
          ⟨some 48, none, .fieldAddr (.slot 5) 0⟩,
          ⟨some 49, none, .load (.slot 48) false 1 false⟩,
          ⟨some 50, none, .fieldAddr (.slot 5) 1⟩,
          ⟨some 51, none, .load (.slot 50) true 4 false⟩,
          ⟨some 52, none, .call 7 [.slot 46, .slot 47, .slot 49, .slot 51]⟩,
          ⟨some 53, none, .bin true .neq (.slot 45) (.slot 52)⟩,
          ⟨some 54, none, .move (.slot 53) false⟩,
          ⟨some 55, some (54, false), .load (.slot 8) true 3 false⟩,
          ⟨some 56, some (54, false), .load (.slot 9) true 3 false⟩,
          ⟨some 57, some (54, false), .call 8 [.slot 55, .slot 56]⟩,
          ⟨some 58, some (54, false), .un .not (.slot 57)⟩,
          ⟨some 59, none, .pick (.slot 54) (.lit (.c (.d (.v (.bool true))))) (.slot 58)⟩])
         (.cond (.slot 59)
          (.seq
           (.region [⟨some 6, none, .move (.lit (.c (.d (.v (.bool false))))) true⟩])
           .ret)
          .skip))
        (.seq
         (.region [⟨some 61, none, .load (.slot 3) true 6 false⟩,
          ⟨some 62, none, .load (.slot 4) true 9 false⟩,
          ⟨some 63, none, .fieldAddr (.slot 5) 1⟩,
          ⟨some 64, none, .load (.slot 63) true 4 false⟩,
          ⟨some 65, none, .call 9 [.slot 61, .slot 62, .slot 64]⟩,
          ⟨some 60, none, .move (.slot 65) false⟩,
          ⟨some 66, none, .extract (.slot 60) 0 false⟩,
          ⟨some 67, none, .extract (.slot 60) 1 false⟩,
          ⟨some 10, none, .alloc 21 [.d (.v (.int .i64 0)), .d (.v (.int .i64 0)), .d (.v (.int .i64 0)), .d (.v (.int .i64 0)), .d (.v (.int .i64 0)), .d (.v (.int .u32 0)), .d (.v (.int .i64 0)), .d (.v (.int .u32 0)), .d (.v (.bool false))]⟩,
          ⟨some 11, none, .alloc 23 [.nilsl, .d (.v (.bool false)), .d (.v (.bool false)), .d (.v (.bool false)), .d (.v (.bool false))]⟩,
          ⟨none, none, .store (.slot 10) (.slot 66) 9⟩,
          ⟨none, none, .store (.slot 11) (.slot 67) 5⟩])
         (.seq
          (.region [⟨some 69, none, .load (.slot 3) true 6 false⟩,
           ⟨some 70, none, .load (.slot 4) true 9 false⟩,
           ⟨some 71, none, .fieldAddr (.slot 5) 1⟩,
           ⟨some 72, none, .load (.slot 71) true 4 false⟩,
           ⟨some 73, none, .call 10 [.slot 69, .slot 70, .slot 72]⟩,
           ⟨some 68, none, .move (.slot 73) false⟩,
           ⟨some 74, none, .extract (.slot 68) 0 false⟩,
           ⟨some 75, none, .extract (.slot 68) 1 false⟩,
           ⟨some 12, none, .alloc 25 [.d (.v (.int .i64 0)), .d (.v (.int .i64 0)), .d (.v (.int .i64 0)), .d (.v (.int .i64 0)), .d (.v (.int .i64 0)), .d (.v (.int .u32 0)), .d (.v (.int .i64 0)), .d (.v (.int .u32 0)), .d (.v (.bool false))]⟩,
           ⟨some 13, none, .alloc 27 [.nilsl, .d (.v (.bool false)), .d (.v (.bool false)), .d (.v (.bool false)), .d (.v (.bool false))]⟩,
           ⟨none, none, .store (.slot 12) (.slot 74) 9⟩,
           ⟨none, none, .store (.slot 13) (.slot 75) 5⟩])
          (.seq
           (.seq
            (.region [⟨some 76, none, .load (.slot 10) true 9 false⟩,
             ⟨some 77, none, .load (.slot 12) true 9 false⟩,
             ⟨some 78, none, .eqAgg true [1, 1, 1, 1, 1, 1, 1, 1, 0] (.slot 76) (.slot 77)⟩,
             ⟨some 79, none, .move (.slot 78) false⟩,
             ⟨some 80, some (79, false), .load (.slot 11) true 5 false⟩,
             ⟨some 81, some (79, false), .load (.slot 13) true 5 false⟩,
             ⟨some 82, some (79, false), .call 11 [.slot 80, .slot 81]⟩,
             ⟨some 83, some (79, false), .un .not (.slot 82)⟩,
             ⟨some 84, none, .pick (.slot 79) (.lit (.c (.d (.v (.bool true))))) (.slot 83)⟩])
            (.cond (.slot 84)
             (.seq
              (.region [⟨some 6, none, .move (.lit (.c (.d (.v (.bool false))))) true⟩])
              .ret)
             .skip))
           (.seq
            (.region [⟨some 86, none, .load (.slot 3) true 6 false⟩,
             ⟨some 87, none, .load (.slot 4) true 9 false⟩,
             ⟨some 88, none, .fieldAddr (.slot 5) 0⟩,
             ⟨some 89, none, .load (.slot 88) false 1 false⟩,
             ⟨some 90, none, .fieldAddr (.slot 5) 1⟩,
             ⟨some 91, none, .load (.slot 90) true 4 false⟩,
             ⟨some 92, none, .call 12 [.slot 86, .slot 87, .slot 89, .slot 91]⟩,
             ⟨some 85, none, .move (.slot 92) false⟩,
             ⟨some 93, none, .extract (.slot 85) 0 false⟩,
             ⟨some 94, none, .extract (.slot 85) 1 false⟩,
             ⟨some 95, none, .extract (.slot 85) 2 false⟩,
             ⟨some 14, none, .alloc 29 [.d (.v (.int .i64 0)), .d (.v (.int .i64 0)), .d (.v (.int .i64 0)), .d (.v (.int .i64 0)), .d (.v (.int .i64 0)), .d (.v (.int .u32 0)), .d (.v (.int .i64 0)), .d (.v (.int .u32 0)), .d (.v (.bool false))]⟩,
             ⟨some 15, none, .alloc 31 [.nilsl, .d (.v (.bool false)), .d (.v (.bool false)), .d (.v (.bool false)), .d (.v (.bool false))]⟩,
             ⟨none, none, .store (.slot 14) (.slot 93) 9⟩,
             ⟨none, none, .store (.slot 15) (.slot 94) 5⟩,
             ⟨some 16, none, .move (.slot 95) true⟩])
            (.seq
             (.seq
              (.region [⟨some 96, none, .move (.slot 7) false⟩,
               ⟨some 97, none, .un .not (.slot 96)⟩])
              (.cond (.slot 97)
               (.seq
                (.region [⟨some 98, none, .load (.slot 14) true 9 false⟩,
                 ⟨some 99, none, .load (.slot 4) true 9 false⟩,
                 ⟨some 100, none, .eqAgg false [1, 1, 1, 1, 1, 1, 1, 1, 0] (.slot 98) (.slot 99)⟩,
                 ⟨some 101, none, .move (.slot 100) false⟩,
                 ⟨some 102, some (101, true), .load (.slot 15) true 5 false⟩,
                 ⟨some 103, some (101, true), .build [.nilsl, .d (.v (.bool false)), .d (.v (.bool false)), .d (.v (.bool false)), .d (.v (.bool false))] []⟩,
                 ⟨some 104, some (101, true), .call 11 [.slot 102, .slot 103]⟩,
                 ⟨some 105, none, .pick (.slot 101) (.slot 104) (.lit (.c (.d (.v (.bool false)))))⟩,
                 ⟨some 106, none, .move (.slot 105) false⟩,
                 ⟨some 107, some (106, true), .move (.slot 16) false⟩,
                 ⟨some 108, some (106, true), .un .not (.slot 107)⟩,
                 ⟨some 109, none, .pick (.slot 106) (.slot 108) (.lit (.c (.d (.v (.bool false)))))⟩,
                 ⟨some 110, none, .move (.slot 109) false⟩,
                 ⟨some 111, some (110, true), .call 4 []⟩,
                 ⟨some 112, none, .pick (.slot 110) (.slot 111) (.lit (.c (.d (.v (.bool false)))))⟩,
                 ⟨some 6, none, .move (.slot 112) true⟩])
                .ret)
               .skip))
             (.seq
              (.region [⟨some 113, none, .load (.slot 14) true 9 false⟩,
               ⟨some 114, none, .load (.slot 12) true 9 false⟩,
               ⟨some 115, none, .eqAgg false [1, 1, 1, 1, 1, 1, 1, 1, 0] (.slot 113) (.slot 114)⟩,
               ⟨some 116, none, .move (.slot 115) false⟩,
               ⟨some 117, some (116, true), .load (.slot 15) true 5 false⟩,
               ⟨some 118, some (116, true), .load (.slot 13) true 5 false⟩,
               ⟨some 119, some (116, true), .call 11 [.slot 117, .slot 118]⟩,
               ⟨some 120, none, .pick (.slot 116) (.slot 119) (.lit (.c (.d (.v (.bool false)))))⟩,
               ⟨some 121, none, .move (.slot 120) false⟩,
               ⟨some 122, some (121, true), .move (.slot 16) false⟩,
               ⟨some 123, none, .pick (.slot 121) (.slot 122) (.lit (.c (.d (.v (.bool false)))))⟩,
               ⟨some 124, none, .move (.slot 123) false⟩,
               ⟨some 125, some (124, true), .call 4 []⟩,
               ⟨some 126, none, .pick (.slot 124) (.slot 125) (.lit (.c (.d (.v (.bool false)))))⟩,
               ⟨some 6, none, .move (.slot 126) true⟩])
              .ret))))))))))))

theorem F3 : Fn Try.prog 3 Try.f3 127 [] [.t 6] c3 where
  hm := by kernel_rfl
  hf := Try.func3
  hb := by kernel_rfl
  hc := by kernel_rfl
  hts := by kernel_rfl
  hnd := by decide
  hn := Nat.le_of_eq (by kernel_rfl)

def c4 : VC :=
  (.seq
   (.region [⟨some 0, none, .move (.lit (.c (.d (.v (.bool false))))) true⟩])
   (.seq
    (.region [⟨some 1, none, .call 13 [.lit (.c (.d (.v (.int .u32 5)))), .lit (.c (.d (.v (.int .u32 3)))), .lit (.c (.d (.v (.bool true))))]⟩,
     ⟨some 2, none, .move (.slot 1) false⟩,
     ⟨some 3, some (2, true), .call 13 [.lit (.c (.d (.v (.int .u32 3)))), .lit (.c (.d (.v (.int .u32 5)))), .lit (.c (.d (.v (.bool true))))]⟩,
     ⟨some 4, some (2, true), .un .not (.slot 3)⟩,
     ⟨some 5, none, .pick (.slot 2) (.slot 4) (.lit (.c (.d (.v (.bool false)))))⟩,
     ⟨some 0, none, .move (.slot 5) true⟩])
    .ret))

theorem F4 : Fn Try.prog 4 Try.f4 6 [] [.t 0] c4 where
  hm := by kernel_rfl
  hf := Try.func4
  hb := by kernel_rfl
  hc := by kernel_rfl
  hts := by kernel_rfl
  hnd := by decide
  hn := Nat.le_of_eq (by kernel_rfl)

def c10 : VC :=
  (.seq
   (.region [⟨some 3, none, .box 7 6 (.slot 0)⟩,
    ⟨some 4, none, .box 9 9 (.slot 1)⟩,
    ⟨some 5, none, .box 11 4 (.slot 2)⟩,
    ⟨some 6, none, .alloc 13 [.d (.v (.int .i64 0)), .d (.v (.int .i64 0)), .d (.v (.int .i64 0)), .d (.v (.int .i64 0)), .d (.v (.int .i64 0)), .d (.v (.int .u32 0)), .d (.v (.int .i64 0)), .d (.v (.int .u32 0)), .d (.v (.bool false))]⟩,
    ⟨some 7, none, .alloc 15 [.nilsl, .d (.v (.bool false)), .d (.v (.bool false)), .d (.v (.bool false)), .d (.v (.bool false))]⟩])
   (.seq
    (.region [⟨some 15, none, .load (.slot 3) true 6 false⟩,
     ⟨some 16, none, .load (.slot 4) true 9 false⟩,
     ⟨some 17, none, .build [.d (.v (.int .i64 0)), .d (.v (.int .i64 0)), .nilsl] [(0, (1, .lit (.c (.d (.v (.int .i64 6)))))), (1, (1, .lit (.c (.d (.v (.int .i64 7))))))]⟩,
     ⟨some 18, none, .build [.d (.v (.int .i64 0)), .d (.v (.int .i64 0)), .d (.v (.int .u32 0)), .d (.v (.int .i64 0)), .d (.v (.int .u32 0)), .d (.v (.bool false)), .nilsl, .d (.v (.int .i64 0)), .d (.v (.int .i64 0)), .nilsl, .d (.v (.int .u32 0)), .d (.v (.int .u32 0)), .d (.v (.int .u32 0)), .d (.v (.int .u32 0)), .d (.v (.int .u32 0)), .nilsl, .nilsl, .d (.v (.int .i64 0)), .d (.v (.int .i64 0)), .nilsl, .d (.v (.int .i64 0)), .d (.v (.int .i64 0)), .nilsl] [(0, (1, .lit (.c (.d (.v (.int .i64 8)))))), (20, (3, .slot 17))]⟩,
     ⟨some 19, none, .call 17 [.slot 15, .slot 16, .slot 18]⟩,
     ⟨some 14, none, .move (.slot 19) false⟩,
     ⟨some 20, none, .extract (.slot 14) 0 false⟩,
     ⟨some 21, none, .extract (.slot 14) 1 false⟩,
     ⟨some 8, none, .alloc 17 [.d (.v (.int .i64 0)), .d (.v (.int .i64 0)), .d (.v (.int .i64 0)), .d (.v (.int .i64 0)), .d (.v (.int .i64 0)), .d (.v (.int .u32 0)), .d (.v (.int .i64 0)), .d (.v (.int .u32 0)), .d (.v (.bool false))]⟩,
     ⟨some 9, none, .alloc 19 [.nilsl, .d (.v (.bool false)), .d (.v (.bool false)), .d (.v (.bool false)), .d (.v (.bool false))]⟩,
     ⟨none, none, .store (.slot 8) (.slot 20) 9⟩,
     ⟨none, none, .store (.slot 9) (.slot 21) 5⟩])
    (.seq
     (.region [⟨some 23, none, .load (.slot 3) true 6 false⟩,
      ⟨some 24, none, .build [.d (.v (.int .i64 0)), .d (.v (.int .i64 0)), .d (.v (.int .i64 0)), .d (.v (.int .i64 0)), .d (.v (.int .i64 0)), .d (.v (.int .u32 0)), .d (.v (.int .i64 0)), .d (.v (.int .u32 0)), .d (.v (.bool false))] [(0, (1, .lit (.c (.d (.v (.int .i64 2))))))]⟩,
      ⟨some 25, none, .build [.d (.v (.int .i64 0)), .d (.v (.int .i64 0)), .d (.v (.int .u32 0)), .d (.v (.int .i64 0)), .d (.v (.int .u32 0)), .d (.v (.bool false)), .nilsl, .d (.v (.int .i64 0)), .d (.v (.int .i64 0)), .nilsl, .d (.v (.int .u32 0)), .d (.v (.int .u32 0)), .d (.v (.int .u32 0)), .d (.v (.int .u32 0)), .d (.v (.int .u32 0)), .nilsl, .nilsl, .d (.v (.int .i64 0)), .d (.v (.int .i64 0)), .nilsl, .d (.v (.int .i64 0)), .d (.v (.int .i64 0)), .nilsl] [(0, (1, .lit (.c (.d (.v (.int .i64 3))))))]⟩,
      ⟨some 26, none, .call 17 [.slot 23, .slot 24, .slot 25]⟩,
      ⟨some 22, none, .move (.slot 26) false⟩,
      ⟨some 27, none, .extract (.slot 22) 0 false⟩,
      ⟨some 28, none, .extract (.slot 22) 1 false⟩,
      ⟨some 10, none, .alloc 21 [.d (.v (.int .i64 0)), .d (.v (.int .i64 0)), .d (.v (.int .i64 0)), .d (.v (.int .i64 0)), .d (.v (.int .i64 0)), .d (.v (.int .u32 0)), .d (.v (.int .i64 0)), .d (.v (.int .u32 0)), .d (.v (.bool false))]⟩,
      ⟨some 11, none, .alloc 23 [.nilsl, .d (.v (.bool false)), .d (.v (.bool false)), .d (.v (.bool false)), .d (.v (.bool false))]⟩,
      ⟨none, none, .store (.slot 10) (.slot 27) 9⟩,
      ⟨none, none, .store (.slot 11) (.slot 28) 5⟩])
     (.seq
      (.region [⟨some 30, none, .load (.slot 3) true 6 false⟩,
       ⟨some 31, none, .load (.slot 10) true 9 false⟩,
       ⟨some 32, none, .load (.slot 5) true 4 false⟩,
       ⟨some 33, none, .build [.d (.v (.int .i64 0)), .d (.v (.int .u32 0)), .d (.v (.int .i64 0)), .d (.v (.int .u32 0)), .d (.v (.bool false)), .nilsl, .d (.v (.int .i64 0)), .d (.v (.int .i64 0)), .nilsl, .d (.v (.int .u32 0)), .d (.v (.int .u32 0)), .d (.v (.int .u32 0)), .d (.v (.int .u32 0)), .d (.v (.int .u32 0)), .nilsl, .nilsl, .d (.v (.int .i64 0)), .d (.v (.int .i64 0)), .nilsl] [(0, (1, .lit (.c (.d (.v (.int .i64 1)))))), (1, (4, .slot 32))]⟩,
       ⟨some 34, none, .build [.d (.v (.int .i64 0)), .d (.v (.int .i64 0)), .d (.v (.int .u32 0)), .d (.v (.int .i64 0)), .d (.v (.int .u32 0)), .d (.v (.bool false)), .nilsl, .d (.v (.int .i64 0)), .d (.v (.int .i64 0)), .nilsl, .d (.v (.int .u32 0)), .d (.v (.int .u32 0)), .d (.v (.int .u32 0)), .d (.v (.int .u32 0)), .d (.v (.int .u32 0)), .nilsl, .nilsl, .d (.v (.int .i64 0)), .d (.v (.int .i64 0)), .nilsl, .d (.v (.int .i64 0)), .d (.v (.int .i64 0)), .nilsl] [(0, (1, .lit (.c (.d (.v (.int .i64 6)))))), (1, (19, .slot 33))]⟩,
       ⟨some 35, none, .call 17 [.slot 30, .slot 31, .slot 34]⟩,
       ⟨some 29, none, .move (.slot 35) false⟩,
       ⟨some 36, none, .extract (.slot 29) 0 false⟩,
       ⟨some 37, none, .extract (.slot 29) 1 false⟩,
       ⟨some 12, none, .alloc 25 [.nilsl, .d (.v (.bool false)), .d (.v (.bool false)), .d (.v (.bool false)), .d (.v (.bool false))]⟩,
       ⟨none, none, .store (.slot 10) (.slot 36) 9⟩,
       ⟨none, none, .store (.slot 12) (.slot 37) 5⟩])
      (.seq
       (.region [⟨some 38, none, .fieldAddr (.slot 9) 2⟩,
        ⟨some 39, none, .load (.slot 38) false 1 false⟩,
        ⟨some 40, none, .fieldAddr (.slot 9) 4⟩,
        ⟨some 41, none, .load (.slot 40) false 1 false⟩,
        ⟨some 42, none, .build [.nilsl, .d (.v (.bool false)), .d (.v (.bool false)), .d (.v (.bool false)), .d (.v (.bool false))] [(2, (1, .slot 39)), (4, (1, .slot 41))]⟩,
        ⟨some 13, none, .alloc 27 [.nilsl, .d (.v (.bool false)), .d (.v (.bool false)), .d (.v (.bool false)), .d (.v (.bool false))]⟩,
        ⟨none, none, .store (.slot 13) (.slot 42) 5⟩])
       (.seq
        (.draw [] [⟨some 43, none, .fieldAddr (.slot 13) 0⟩,
         ⟨some 44, none, .load (.slot 43) false 1 false⟩,
         ⟨some 45, none, .fieldAddr (.slot 9) 0⟩,
         ⟨some 46, none, .load (.slot 45) false 1 false⟩,
         ⟨some 47, none, .append false 59 19 208 (.slot 44) (.slot 46)⟩,
         ⟨some 48, none, .fieldAddr (.slot 11) 0⟩,
         ⟨some 49, none, .load (.slot 48) false 1 false⟩,
         ⟨some 50, none, .append false 59 19 208 (.slot 47) (.slot 49)⟩,
         ⟨some 51, none, .fieldAddr (.slot 12) 0⟩,
         ⟨some 52, none, .load (.slot 51) false 1 false⟩,
         ⟨some 53, none, .append false 59 19 208 (.slot 50) (.slot 52)⟩,
         ⟨some 54, none, .fieldAddr (.slot 13) 0⟩,
         ⟨none, none, .store (.slot 54) (.slot 53) 1⟩])
        (.seq
         (.draw [(1, 2)] [⟨some 55, none, .load (.slot 10) true 9 false⟩,
          ⟨some 56, none, .load (.slot 13) true 5 false⟩,
          ⟨none, none, .store (.slot 6) (.slot 55) 9⟩,
          ⟨none, none, .store (.slot 7) (.slot 56) 5⟩])
         .ret)))))))

theorem F10 : Fn Try.prog 10 Try.f10 57 [] [.cell 6 true 9, .cell 7 true 5] c10 where
  hm := by kernel_rfl
  hf := Try.func10
  hb := by kernel_rfl
  hc := by kernel_rfl
  hts := by kernel_rfl
  hnd := by decide
  hn := Nat.le_of_eq (by kernel_rfl)

def c11 : VC :=
  (.seq
   (.region [⟨some 2, none, .box 5 5 (.slot 0)⟩,
    ⟨some 3, none, .box 7 5 (.slot 1)⟩,
    ⟨some 4, none, .move (.lit (.c (.d (.v (.bool false))))) true⟩])
   (.seq
    (.seq
     (.region [⟨some 6, none, .fieldAddr (.slot 2) 0⟩,
      ⟨some 7, none, .load (.slot 6) false 1 false⟩,
      ⟨some 8, none, .len (.slot 7)⟩,
      ⟨some 9, none, .fieldAddr (.slot 3) 0⟩,
      ⟨some 10, none, .load (.slot 9) false 1 false⟩,
      ⟨some 11, none, .len (.slot 10)⟩,
      ⟨some 12, none, .bin false .neq (.slot 8) (.slot 11)⟩])
     (.cond (.slot 12)
      (.seq
       (.region [⟨some 4, none, .move (.lit (.c (.d (.v (.bool false))))) true⟩])
       .ret)
      .skip))
    (.seq
     (.seq
      (.region [⟨some 5, none, .move (.lit (.c (.d (.v (.int .i64 0))))) true⟩])
      (.block 0
       (.loop
        (.seq
         (.seq
          (.region [⟨some 13, none, .move (.slot 5) false⟩,
           ⟨some 14, none, .fieldAddr (.slot 2) 0⟩,
           ⟨some 15, none, .load (.slot 14) false 1 false⟩,
           ⟨some 16, none, .len (.slot 15)⟩,
           ⟨some 17, none, .bin false .lss (.slot 13) (.slot 16)⟩])
          (.cond (.slot 17)
           .skip
           (.exit 0)))
         (.seq
          (.block 1
           (.seq
            (.draw [(5, 7), (5, 10)] [⟨some 20, none, .fieldAddr (.slot 2) 0⟩,
             ⟨some 21, none, .load (.slot 20) false 1 false⟩,
             ⟨some 22, none, .move (.slot 5) false⟩,
             ⟨some 23, none, .indexAddr (.slot 21) (.slot 22) 19⟩,
             ⟨some 24, none, .load (.slot 23) true 19 false⟩,
             ⟨some 25, none, .call 19 [.slot 24]⟩,
             ⟨some 26, none, .fieldAddr (.slot 3) 0⟩,
             ⟨some 27, none, .load (.slot 26) false 1 false⟩,
             ⟨some 28, none, .move (.slot 5) false⟩,
             ⟨some 29, none, .indexAddr (.slot 27) (.slot 28) 19⟩,
             ⟨some 30, none, .load (.slot 29) true 19 false⟩,
             ⟨some 31, none, .call 19 [.slot 30]⟩,
             ⟨some 32, none, .call 18 [.slot 25, .slot 31]⟩,
             ⟨some 33, none, .un .not (.slot 32)⟩])
            (.cond (.slot 33)
             (.seq
              (.region [⟨some 4, none, .move (.lit (.c (.d (.v (.bool false))))) true⟩])
              .ret)
             .skip)))
          (.region [⟨some 18, none, .move (.slot 5) false⟩,
           ⟨some 19, none, .bin false .add (.slot 18) (.lit (.c (.d (.v (.int .i64 1)))))⟩,
           ⟨some 5, none, .move (.slot 19) true⟩]))))))
     (.seq
      (.region [⟨some 34, none, .fieldAddr (.slot 2) 1⟩,
       ⟨some 35, none, .load (.slot 34) false 1 false⟩,
       ⟨some 36, none, .fieldAddr (.slot 3) 1⟩,
       ⟨some 37, none, .load (.slot 36) false 1 false⟩,
       ⟨some 38, none, .bin true .eql (.slot 35) (.slot 37)⟩,
       ⟨some 39, none, .move (.slot 38) false⟩,
       ⟨some 40, some (39, true), .fieldAddr (.slot 2) 2⟩,
       ⟨some 41, some (39, true), .load (.slot 40) false 1 false⟩,
       ⟨some 42, some (39, true), .fieldAddr (.slot 3) 2⟩,
       ⟨some 43, some (39, true), .load (.slot 42) false 1 false⟩,
       ⟨some 44, some (39, true), .bin true .eql (.slot 41) (.slot 43)⟩,
       ⟨some 45, none, .pick (.slot 39) (.slot 44) (.lit (.c (.d (.v (.bool false)))))⟩,
       ⟨some 46, none, .move (.slot 45) false⟩,
       ⟨some 47, some (46, true), .fieldAddr (.slot 2) 3⟩,
       ⟨some 48, some (46, true), .load (.slot 47) false 1 false⟩,
       ⟨some 49, some (46, true), .fieldAddr (.slot 3) 3⟩,
       ⟨some 50, some (46, true), .load (.slot 49) false 1 false⟩,
       ⟨some 51, some (46, true), .bin true .eql (.slot 48) (.slot 50)⟩,
       ⟨some 52, none, .pick (.slot 46) (.slot 51) (.lit (.c (.d (.v (.bool false)))))⟩,
       ⟨some 53, none, .move (.slot 52) false⟩,
       ⟨some 54, some (53, true), .fieldAddr (.slot 2) 4⟩,
       ⟨some 55, some (53, true), .load (.slot 54) false 1 false⟩,
       ⟨some 56, some (53, true), .fieldAddr (.slot 3) 4⟩,
       ⟨some 57, some (53, true), .load (.slot 56) false 1 false⟩,
       ⟨some 58, some (53, true), .bin true .eql (.slot 55) (.slot 57)⟩,
       ⟨some 59, none, .pick (.slot 53) (.slot 58) (.lit (.c (.d (.v (.bool false)))))⟩,
       ⟨some 4, none, .move (.slot 59) true⟩])
      .ret))))

theorem F11 : Fn Try.prog 11 Try.f11 60 [] [.t 4] c11 where
  hm := by kernel_rfl
  hf := Try.func11
  hb := by kernel_rfl
  hc := by kernel_rfl
  hts := by kernel_rfl
  hnd := by decide
  hn := Nat.le_of_eq (by kernel_rfl)

def c16 : VC :=
  (.seq
   (.region [⟨some 3, none, .box 7 6 (.slot 0)⟩,
    ⟨some 4, none, .box 9 9 (.slot 1)⟩,
    ⟨some 5, none, .box 11 4 (.slot 2)⟩,
    ⟨some 6, none, .alloc 13 [.d (.v (.int .i64 0)), .d (.v (.int .i64 0)), .d (.v (.int .i64 0)), .d (.v (.int .i64 0)), .d (.v (.int .i64 0)), .d (.v (.int .u32 0)), .d (.v (.int .i64 0)), .d (.v (.int .u32 0)), .d (.v (.bool false))]⟩,
    ⟨some 7, none, .alloc 15 [.nilsl, .d (.v (.bool false)), .d (.v (.bool false)), .d (.v (.bool false)), .d (.v (.bool false))]⟩])
   (.seq
    (.draw [(0, 2), (1, 2), (0, 8), (1, 8), (2, 8), (4, 8), (0, 9), (1, 9), (2, 9), (4, 9), (8, 9)] [⟨some 15, none, .load (.slot 3) true 6 false⟩,
     ⟨some 16, none, .load (.slot 4) true 9 false⟩,
     ⟨some 17, none, .call 21 [.lit (.c (.d (.v (.int .i64 7))))]⟩,
     ⟨some 18, none, .build [.d (.v (.int .i64 0)), .d (.v (.int .i64 0)), .d (.v (.int .u32 0)), .d (.v (.int .i64 0)), .d (.v (.int .u32 0)), .d (.v (.bool false)), .nilsl, .d (.v (.int .i64 0)), .d (.v (.int .i64 0)), .nilsl, .d (.v (.int .u32 0)), .d (.v (.int .u32 0)), .d (.v (.int .u32 0)), .d (.v (.int .u32 0)), .d (.v (.int .u32 0)), .nilsl, .nilsl, .d (.v (.int .i64 0)), .d (.v (.int .i64 0)), .nilsl, .d (.v (.int .i64 0)), .d (.v (.int .i64 0)), .nilsl] [(0, (1, .lit (.c (.d (.v (.int .i64 8)))))), (20, (3, .slot 17))]⟩,
     ⟨some 19, none, .call 22 [.slot 15, .slot 16, .slot 18]⟩,
     ⟨some 14, none, .move (.slot 19) false⟩,
     ⟨some 20, none, .extract (.slot 14) 0 false⟩,
     ⟨some 21, none, .extract (.slot 14) 1 false⟩,
     ⟨some 8, none, .alloc 17 [.d (.v (.int .i64 0)), .d (.v (.int .i64 0)), .d (.v (.int .i64 0)), .d (.v (.int .i64 0)), .d (.v (.int .i64 0)), .d (.v (.int .u32 0)), .d (.v (.int .i64 0)), .d (.v (.int .u32 0)), .d (.v (.bool false))]⟩,
     ⟨some 9, none, .alloc 19 [.nilsl, .d (.v (.bool false)), .d (.v (.bool false)), .d (.v (.bool false)), .d (.v (.bool false))]⟩,
     ⟨none, none, .store (.slot 8) (.slot 20) 9⟩,
     ⟨none, none, .store (.slot 9) (.slot 21) 5⟩])
    (.seq
     (.region [⟨some 23, none, .load (.slot 3) true 6 false⟩,
      ⟨some 24, none, .build [.d (.v (.int .i64 0)), .d (.v (.int .i64 0)), .d (.v (.int .i64 0)), .d (.v (.int .i64 0)), .d (.v (.int .i64 0)), .d (.v (.int .u32 0)), .d (.v (.int .i64 0)), .d (.v (.int .u32 0)), .d (.v (.bool false))] [(0, (1, .lit (.c (.d (.v (.int .i64 2))))))]⟩,
      ⟨some 25, none, .build [.d (.v (.int .i64 0)), .d (.v (.int .i64 0)), .d (.v (.int .u32 0)), .d (.v (.int .i64 0)), .d (.v (.int .u32 0)), .d (.v (.bool false)), .nilsl, .d (.v (.int .i64 0)), .d (.v (.int .i64 0)), .nilsl, .d (.v (.int .u32 0)), .d (.v (.int .u32 0)), .d (.v (.int .u32 0)), .d (.v (.int .u32 0)), .d (.v (.int .u32 0)), .nilsl, .nilsl, .d (.v (.int .i64 0)), .d (.v (.int .i64 0)), .nilsl, .d (.v (.int .i64 0)), .d (.v (.int .i64 0)), .nilsl] [(0, (1, .lit (.c (.d (.v (.int .i64 3))))))]⟩,
      ⟨some 26, none, .call 22 [.slot 23, .slot 24, .slot 25]⟩,
      ⟨some 22, none, .move (.slot 26) false⟩,
      ⟨some 27, none, .extract (.slot 22) 0 false⟩,
      ⟨some 28, none, .extract (.slot 22) 1 false⟩,
      ⟨some 10, none, .alloc 21 [.d (.v (.int .i64 0)), .d (.v (.int .i64 0)), .d (.v (.int .i64 0)), .d (.v (.int .i64 0)), .d (.v (.int .i64 0)), .d (.v (.int .u32 0)), .d (.v (.int .i64 0)), .d (.v (.int .u32 0)), .d (.v (.bool false))]⟩,
      ⟨some 11, none, .alloc 23 [.nilsl, .d (.v (.bool false)), .d (.v (.bool false)), .d (.v (.bool false)), .d (.v (.bool false))]⟩,
      ⟨none, none, .store (.slot 10) (.slot 27) 9⟩,
      ⟨none, none, .store (.slot 11) (.slot 28) 5⟩])
     (.seq
      (.region [⟨some 30, none, .load (.slot 3) true 6 false⟩,
       ⟨some 31, none, .load (.slot 10) true 9 false⟩,
       ⟨some 32, none, .load (.slot 5) true 4 false⟩,
       ⟨some 33, none, .build [.d (.v (.int .i64 0)), .d (.v (.int .u32 0)), .d (.v (.int .i64 0)), .d (.v (.int .u32 0)), .d (.v (.bool false)), .nilsl, .d (.v (.int .i64 0)), .d (.v (.int .i64 0)), .nilsl, .d (.v (.int .u32 0)), .d (.v (.int .u32 0)), .d (.v (.int .u32 0)), .d (.v (.int .u32 0)), .d (.v (.int .u32 0)), .nilsl, .nilsl, .d (.v (.int .i64 0)), .d (.v (.int .i64 0)), .nilsl] [(0, (1, .lit (.c (.d (.v (.int .i64 1)))))), (1, (4, .slot 32))]⟩,
       ⟨some 34, none, .build [.d (.v (.int .i64 0)), .d (.v (.int .i64 0)), .d (.v (.int .u32 0)), .d (.v (.int .i64 0)), .d (.v (.int .u32 0)), .d (.v (.bool false)), .nilsl, .d (.v (.int .i64 0)), .d (.v (.int .i64 0)), .nilsl, .d (.v (.int .u32 0)), .d (.v (.int .u32 0)), .d (.v (.int .u32 0)), .d (.v (.int .u32 0)), .d (.v (.int .u32 0)), .nilsl, .nilsl, .d (.v (.int .i64 0)), .d (.v (.int .i64 0)), .nilsl, .d (.v (.int .i64 0)), .d (.v (.int .i64 0)), .nilsl] [(0, (1, .lit (.c (.d (.v (.int .i64 6)))))), (1, (19, .slot 33))]⟩,
       ⟨some 35, none, .call 22 [.slot 30, .slot 31, .slot 34]⟩,
       ⟨some 29, none, .move (.slot 35) false⟩,
       ⟨some 36, none, .extract (.slot 29) 0 false⟩,
       ⟨some 37, none, .extract (.slot 29) 1 false⟩,
       ⟨some 12, none, .alloc 25 [.nilsl, .d (.v (.bool false)), .d (.v (.bool false)), .d (.v (.bool false)), .d (.v (.bool false))]⟩,
       ⟨none, none, .store (.slot 10) (.slot 36) 9⟩,
       ⟨none, none, .store (.slot 12) (.slot 37) 5⟩])
      (.seq
       (.region [⟨some 38, none, .fieldAddr (.slot 9) 0⟩,
        ⟨some 39, none, .load (.slot 38) false 1 false⟩,
        ⟨some 40, none, .fieldAddr (.slot 11) 0⟩,
        ⟨some 41, none, .load (.slot 40) false 1 false⟩,
        ⟨some 42, none, .fieldAddr (.slot 12) 0⟩,
        ⟨some 43, none, .load (.slot 42) false 1 false⟩,
        ⟨some 44, none, .buildSlice 40 1 3 [.sl []] [(0, .slot 39), (1, .slot 41), (2, .slot 43)]⟩,
        ⟨some 45, none, .call 23 [.slot 44]⟩,
        ⟨some 46, none, .build [.nilsl, .d (.v (.bool false)), .d (.v (.bool false)), .d (.v (.bool false)), .d (.v (.bool false))] [(0, (1, .slot 45))]⟩,
        ⟨some 13, none, .alloc 27 [.nilsl, .d (.v (.bool false)), .d (.v (.bool false)), .d (.v (.bool false)), .d (.v (.bool false))]⟩,
        ⟨none, none, .store (.slot 13) (.slot 46) 5⟩])
       (.seq
        (.draw [(3, 5)] [⟨some 47, none, .fieldAddr (.slot 9) 2⟩,
         ⟨some 48, none, .load (.slot 47) false 1 false⟩,
         ⟨some 49, none, .fieldAddr (.slot 9) 4⟩,
         ⟨some 50, none, .load (.slot 49) false 1 false⟩,
         ⟨some 51, none, .fieldAddr (.slot 13) 2⟩,
         ⟨none, none, .store (.slot 51) (.slot 48) 1⟩,
         ⟨some 52, none, .fieldAddr (.slot 13) 4⟩,
         ⟨none, none, .store (.slot 52) (.slot 50) 1⟩])
        (.seq
         (.draw [(1, 2)] [⟨some 53, none, .load (.slot 10) true 9 false⟩,
          ⟨some 54, none, .load (.slot 13) true 5 false⟩,
          ⟨none, none, .store (.slot 6) (.slot 53) 9⟩,
          ⟨none, none, .store (.slot 7) (.slot 54) 5⟩])
         .ret)))))))

theorem F16 : Fn Try.prog 16 Try.f16 55 [] [.cell 6 true 9, .cell 7 true 5] c16 where
  hm := by kernel_rfl
  hf := Try.func16
  hb := by kernel_rfl
  hc := by kernel_rfl
  hts := by kernel_rfl
  hnd := by decide
  hn := Nat.le_of_eq (by kernel_rfl)

def c17 : VC :=
  (.seq
   (.region [⟨some 3, none, .box 7 6 (.slot 0)⟩,
    ⟨some 4, none, .box 9 9 (.slot 1)⟩,
    ⟨some 5, none, .box 11 23 (.slot 2)⟩,
    ⟨some 6, none, .alloc 13 [.d (.v (.int .i64 0)), .d (.v (.int .i64 0)), .d (.v (.int .i64 0)), .d (.v (.int .i64 0)), .d (.v (.int .i64 0)), .d (.v (.int .u32 0)), .d (.v (.int .i64 0)), .d (.v (.int .u32 0)), .d (.v (.bool false))]⟩,
    ⟨some 7, none, .alloc 15 [.nilsl, .d (.v (.bool false)), .d (.v (.bool false)), .d (.v (.bool false)), .d (.v (.bool false))]⟩])
   (.seq
    (.region [⟨some 12, none, .fieldAddr (.slot 3) 4⟩,
     ⟨some 13, none, .load (.slot 12) false 1 false⟩,
     ⟨some 14, none, .build [.d (.v (.int .i64 0)), .d (.v (.int .i64 0)), .d (.v (.int .i64 0)), .d (.v (.int .i64 0)), .d (.v (.int .i64 0)), .d (.v (.int .u32 0)), .d (.v (.int .i64 0)), .d (.v (.int .u32 0)), .d (.v (.bool false))] [(0, (1, .lit (.c (.d (.v (.int .i64 2)))))), (4, (1, .slot 13))]⟩,
     ⟨some 8, none, .alloc 17 [.d (.v (.int .i64 0)), .d (.v (.int .i64 0)), .d (.v (.int .i64 0)), .d (.v (.int .i64 0)), .d (.v (.int .i64 0)), .d (.v (.int .u32 0)), .d (.v (.int .i64 0)), .d (.v (.int .u32 0)), .d (.v (.bool false))]⟩,
     ⟨none, none, .store (.slot 8) (.slot 14) 9⟩])
    (.seq
     (.seq
      (.region [⟨some 15, none, .fieldAddr (.slot 3) 5⟩,
       ⟨some 16, none, .load (.slot 15) false 1 false⟩])
      (.cond (.slot 16)
       (.region [⟨some 17, none, .fieldAddr (.slot 8) 4⟩,
        ⟨none, none, .store (.slot 17) (.lit (.c (.d (.v (.int .i64 0))))) 1⟩])
       .skip))
     (.seq
      (.seq
       (.region [⟨some 18, none, .fieldAddr (.slot 5) 0⟩,
        ⟨some 19, none, .load (.slot 18) false 1 false⟩])
       (.block 0
        (.seq
         (.region [⟨some 23, none, .bin false .eql (.slot 19) (.lit (.c (.d (.v (.int .i64 1)))))⟩,
          ⟨some 22, none, .move (.slot 23) true⟩])
         (.cond (.slot 22)
          (.seq
           (.region [⟨some 24, none, .fieldAddr (.slot 4) 0⟩,
            ⟨some 25, none, .load (.slot 24) false 1 false⟩,
            ⟨some 26, none, .bin false .eql (.slot 25) (.lit (.c (.d (.v (.int .i64 0)))))⟩])
           (.cond (.slot 26)
            (.seq
             (.region [⟨some 27, none, .load (.slot 3) true 6 false⟩,
              ⟨some 28, none, .call 24 [.slot 27]⟩,
              ⟨some 29, none, .extract (.slot 28) 0 false⟩,
              ⟨some 30, none, .extract (.slot 28) 1 false⟩,
              ⟨none, none, .store (.slot 6) (.slot 29) 9⟩,
              ⟨none, none, .store (.slot 7) (.slot 30) 5⟩])
             .ret)
            .skip))
          (.seq
           (.region [⟨some 32, none, .bin false .eql (.slot 19) (.lit (.c (.d (.v (.int .i64 2)))))⟩,
            ⟨some 31, none, .move (.slot 32) true⟩])
           (.cond (.slot 31)
            (.seq
             (.region [⟨some 33, none, .build [.nilsl, .d (.v (.bool false)), .d (.v (.bool false)), .d (.v (.bool false)), .d (.v (.bool false))] []⟩,
              ⟨some 9, none, .alloc 19 [.nilsl, .d (.v (.bool false)), .d (.v (.bool false)), .d (.v (.bool false)), .d (.v (.bool false))]⟩,
              ⟨none, none, .store (.slot 9) (.slot 33) 5⟩])
             (.seq
              (.seq
               (.region [⟨some 34, none, .fieldAddr (.slot 4) 0⟩,
                ⟨some 35, none, .load (.slot 34) false 1 false⟩,
                ⟨some 36, none, .bin false .neq (.slot 35) (.lit (.c (.d (.v (.int .i64 0)))))⟩])
               (.cond (.slot 36)
                (.region [⟨some 38, none, .load (.slot 3) true 6 false⟩,
                 ⟨some 39, none, .load (.slot 4) true 9 false⟩,
                 ⟨some 40, none, .build [.d (.v (.int .i64 0)), .d (.v (.int .i64 0)), .nilsl] [(0, (1, .lit (.c (.d (.v (.int .i64 6)))))), (1, (1, .lit (.c (.d (.v (.int .i64 2))))))]⟩,
                 ⟨some 41, none, .call 25 [.slot 38, .slot 39, .slot 40]⟩,
                 ⟨some 37, none, .move (.slot 41) false⟩,
                 ⟨some 42, none, .extract (.slot 37) 0 false⟩,
                 ⟨some 43, none, .extract (.slot 37) 1 false⟩,
                 ⟨none, none, .store (.slot 4) (.slot 42) 9⟩,
                 ⟨none, none, .store (.slot 9) (.slot 43) 5⟩])
                .skip))
              (.seq
               (.region [⟨some 44, none, .fieldAddr (.slot 4) 4⟩,
                ⟨none, none, .store (.slot 44) (.lit (.c (.d (.v (.int .i64 0))))) 1⟩])
               (.seq
                (.draw [(1, 2)] [⟨some 45, none, .load (.slot 4) true 9 false⟩,
                 ⟨some 46, none, .load (.slot 9) true 5 false⟩,
                 ⟨none, none, .store (.slot 6) (.slot 45) 9⟩,
                 ⟨none, none, .store (.slot 7) (.slot 46) 5⟩])
                .ret))))
            (.seq
             (.region [⟨some 48, none, .bin false .eql (.slot 19) (.lit (.c (.d (.v (.int .i64 3)))))⟩,
              ⟨some 47, none, .move (.slot 48) true⟩])
             (.cond (.slot 47)
              (.seq
               (.region [⟨some 49, none, .fieldAddr (.slot 4) 0⟩,
                ⟨some 50, none, .load (.slot 49) false 1 false⟩,
                ⟨some 51, none, .bin false .eql (.slot 50) (.lit (.c (.d (.v (.int .i64 1)))))⟩,
                ⟨some 52, none, .move (.slot 51) false⟩,
                ⟨some 53, some (52, false), .fieldAddr (.slot 4) 0⟩,
                ⟨some 54, some (52, false), .load (.slot 53) false 1 false⟩,
                ⟨some 55, some (52, false), .bin false .eql (.slot 54) (.lit (.c (.d (.v (.int .i64 2)))))⟩,
                ⟨some 56, none, .pick (.slot 52) (.lit (.c (.d (.v (.bool true))))) (.slot 55)⟩])
               (.cond (.slot 56)
                (.seq
                 (.draw [(2, 11), (4, 11), (6, 11)] [⟨some 57, none, .build [.d (.v (.int .i64 0)), .d (.v (.int .i64 0)), .d (.v (.int .i64 0)), .d (.v (.int .i64 0)), .d (.v (.int .i64 0)), .d (.v (.int .u32 0)), .d (.v (.int .i64 0)), .d (.v (.int .u32 0)), .d (.v (.bool false))] [(0, (1, .lit (.c (.d (.v (.int .i64 3)))))), (2, (1, .lit (.c (.d (.v (.int .i64 240))))))]⟩,
                  ⟨some 58, none, .fieldAddr (.slot 3) 0⟩,
                  ⟨some 59, none, .load (.slot 58) false 1 false⟩,
                  ⟨some 60, none, .fieldAddr (.slot 3) 3⟩,
                  ⟨some 61, none, .load (.slot 60) false 1 false⟩,
                  ⟨some 62, none, .fieldAddr (.slot 3) 1⟩,
                  ⟨some 63, none, .load (.slot 62) false 1 false⟩,
                  ⟨some 64, none, .build [.d (.v (.int .u32 0)), .d (.v (.int .i64 0)), .d (.v (.int .u32 0)), .d (.v (.bool false))] [(0, (1, .slot 59)), (1, (1, .slot 61)), (2, (1, .slot 63)), (3, (1, .lit (.c (.d (.v (.bool true))))))]⟩,
                  ⟨some 65, none, .build [.d (.v (.int .i64 0)), .d (.v (.int .u32 0)), .d (.v (.int .i64 0)), .d (.v (.int .u32 0)), .d (.v (.bool false)), .nilsl, .d (.v (.int .i64 0)), .d (.v (.int .i64 0)), .nilsl, .d (.v (.int .u32 0)), .d (.v (.int .u32 0)), .d (.v (.int .u32 0)), .d (.v (.int .u32 0)), .d (.v (.int .u32 0)), .nilsl, .nilsl, .d (.v (.int .i64 0)), .d (.v (.int .i64 0)), .nilsl] [(0, (1, .lit (.c (.d (.v (.int .i64 1)))))), (1, (4, .slot 64))]⟩,
                  ⟨some 66, none, .buildSlice 59 19 1 [.v (.int .i64 0), .v (.int .u32 0), .v (.int .i64 0), .v (.int .u32 0), .v (.bool false), .sl [], .v (.int .i64 0), .v (.int .i64 0), .sl [], .v (.int .u32 0), .v (.int .u32 0), .v (.int .u32 0), .v (.int .u32 0), .v (.int .u32 0), .sl [], .sl [], .v (.int .i64 0), .v (.int .i64 0), .sl []] [(0, .slot 65)]⟩,
                  ⟨some 67, none, .build [.nilsl, .d (.v (.bool false)), .d (.v (.bool false)), .d (.v (.bool false)), .d (.v (.bool false))] [(0, (1, .slot 66))]⟩,
                  ⟨none, none, .store (.slot 6) (.slot 57) 9⟩,
                  ⟨none, none, .store (.slot 7) (.slot 67) 5⟩])
                 .ret)
                .skip))
              (.seq
               (.region [⟨some 69, none, .bin false .eql (.slot 19) (.lit (.c (.d (.v (.int .i64 4)))))⟩,
                ⟨some 68, none, .move (.slot 69) true⟩])
               (.cond (.slot 68)
                (.seq
                 (.seq
                  (.region [⟨some 70, none, .fieldAddr (.slot 4) 0⟩,
                   ⟨some 71, none, .load (.slot 70) false 1 false⟩,
                   ⟨some 72, none, .bin false .eql (.slot 71) (.lit (.c (.d (.v (.int .i64 1)))))⟩,
                   ⟨some 73, none, .move (.slot 72) false⟩,
                   ⟨some 74, some (73, false), .fieldAddr (.slot 4) 0⟩,
                   ⟨some 75, some (73, false), .load (.slot 74) false 1 false⟩,
                   ⟨some 76, some (73, false), .bin false .eql (.slot 75) (.lit (.c (.d (.v (.int .i64 3)))))⟩,
                   ⟨some 77, none, .pick (.slot 73) (.lit (.c (.d (.v (.bool true))))) (.slot 76)⟩])
                  (.cond (.slot 77)
                   (.seq
                    (.region [⟨some 78, none, .load (.slot 8) true 9 false⟩,
                     ⟨some 79, none, .build [.nilsl, .d (.v (.bool false)), .d (.v (.bool false)), .d (.v (.bool false)), .d (.v (.bool false))] []⟩,
                     ⟨none, none, .store (.slot 6) (.slot 78) 9⟩,
                     ⟨none, none, .store (.slot 7) (.slot 79) 5⟩])
                    .ret)
                   .skip))
                 (.seq
                  (.region [⟨some 80, none, .fieldAddr (.slot 4) 0⟩,
                   ⟨some 81, none, .load (.slot 80) false 1 false⟩,
                   ⟨some 82, none, .bin false .eql (.slot 81) (.lit (.c (.d (.v (.int .i64 4)))))⟩,
                   ⟨some 83, none, .move (.slot 82) false⟩,
                   ⟨some 84, some (83, false), .fieldAddr (.slot 4) 0⟩,
                   ⟨some 85, some (83, false), .load (.slot 84) false 1 false⟩,
                   ⟨some 86, some (83, false), .bin false .eql (.slot 85) (.lit (.c (.d (.v (.int .i64 5)))))⟩,
                   ⟨some 87, none, .pick (.slot 83) (.lit (.c (.d (.v (.bool true))))) (.slot 86)⟩])
                  (.cond (.slot 87)
                   (.seq
                    (.region [⟨some 89, none, .load (.slot 3) true 6 false⟩,
                     ⟨some 90, none, .load (.slot 4) true 9 false⟩,
                     ⟨some 91, none, .build [.d (.v (.int .i64 0)), .d (.v (.int .i64 0)), .nilsl] []⟩,
                     ⟨some 92, none, .call 25 [.slot 89, .slot 90, .slot 91]⟩,
                     ⟨some 88, none, .move (.slot 92) false⟩,
                     ⟨some 93, none, .extract (.slot 88) 0 false⟩,
                     ⟨some 94, none, .extract (.slot 88) 1 false⟩,
                     ⟨some 10, none, .alloc 21 [.d (.v (.int .i64 0)), .d (.v (.int .i64 0)), .d (.v (.int .i64 0)), .d (.v (.int .i64 0)), .d (.v (.int .i64 0)), .d (.v (.int .u32 0)), .d (.v (.int .i64 0)), .d (.v (.int .u32 0)), .d (.v (.bool false))]⟩,
                     ⟨some 11, none, .alloc 23 [.nilsl, .d (.v (.bool false)), .d (.v (.bool false)), .d (.v (.bool false)), .d (.v (.bool false))]⟩,
                     ⟨none, none, .store (.slot 10) (.slot 93) 9⟩,
                     ⟨none, none, .store (.slot 11) (.slot 94) 5⟩])
                    (.seq
                     (.region [⟨some 95, none, .fieldAddr (.slot 11) 2⟩,
                      ⟨none, none, .store (.slot 95) (.lit (.c (.d (.v (.bool false))))) 1⟩])
                     (.seq
                      (.draw [(1, 2)] [⟨some 96, none, .load (.slot 10) true 9 false⟩,
                       ⟨some 97, none, .load (.slot 11) true 5 false⟩,
                       ⟨none, none, .store (.slot 6) (.slot 96) 9⟩,
                       ⟨none, none, .store (.slot 7) (.slot 97) 5⟩])
                      .ret)))
                   .skip)))
                (.seq
                 (.region [⟨some 99, none, .bin false .eql (.slot 19) (.lit (.c (.d (.v (.int .i64 5)))))⟩,
                  ⟨some 98, none, .move (.slot 99) true⟩])
                 (.cond (.slot 98)
                  (.seq
                   (.region [⟨some 100, none, .load (.slot 3) true 6 false⟩,
                    ⟨some 101, none, .load (.slot 4) true 9 false⟩,
                    ⟨some 102, none, .call 26 [.slot 100, .slot 101]⟩,
                    ⟨some 103, none, .extract (.slot 102) 0 false⟩,
                    ⟨some 104, none, .extract (.slot 102) 1 false⟩,
                    ⟨none, none, .store (.slot 6) (.slot 103) 9⟩,
                    ⟨none, none, .store (.slot 7) (.slot 104) 5⟩])
                   .ret)
                  (.seq
                   (.region [⟨some 106, none, .bin false .eql (.slot 19) (.lit (.c (.d (.v (.int .i64 6)))))⟩,
                    ⟨some 105, none, .move (.slot 106) true⟩])
                   (.cond (.slot 105)
                    (.seq
                     (.region [⟨some 107, none, .load (.slot 4) true 9 false⟩,
                      ⟨some 108, none, .call 6 [.slot 107]⟩])
                     (.cond (.slot 108)
                      (.seq
                       (.region [⟨some 109, none, .load (.slot 3) true 6 false⟩,
                        ⟨some 110, none, .load (.slot 4) true 9 false⟩,
                        ⟨some 111, none, .fieldAddr (.slot 5) 1⟩,
                        ⟨some 112, none, .load (.slot 111) true 19 false⟩,
                        ⟨some 113, none, .call 27 [.slot 109, .slot 110, .slot 112]⟩,
                        ⟨some 114, none, .extract (.slot 113) 0 false⟩,
                        ⟨some 115, none, .extract (.slot 113) 1 false⟩,
                        ⟨none, none, .store (.slot 6) (.slot 114) 9⟩,
                        ⟨none, none, .store (.slot 7) (.slot 115) 5⟩])
                       .ret)
                      .skip))
                    (.seq
                     (.region [⟨some 117, none, .bin false .eql (.slot 19) (.lit (.c (.d (.v (.int .i64 7)))))⟩,
                      ⟨some 116, none, .move (.slot 117) true⟩])
                     (.cond (.slot 116)
                      (.seq
                       (.region [⟨some 118, none, .load (.slot 4) true 9 false⟩,
                        ⟨some 119, none, .call 6 [.slot 118]⟩])
                       (.cond (.slot 119)
                        (.seq
                         (.region [⟨some 120, none, .load (.slot 3) true 6 false⟩,
                          ⟨some 121, none, .load (.slot 4) true 9 false⟩,
                          ⟨some 122, none, .fieldAddr (.slot 5) 20⟩,
                          ⟨some 123, none, .load (.slot 122) true 3 false⟩,
                          ⟨some 124, none, .call 25 [.slot 120, .slot 121, .slot 123]⟩,
                          ⟨some 125, none, .extract (.slot 124) 0 false⟩,
                          ⟨some 126, none, .extract (.slot 124) 1 false⟩,
                          ⟨none, none, .store (.slot 6) (.slot 125) 9⟩,
                          ⟨none, none, .store (.slot 7) (.slot 126) 5⟩])
                         .ret)
                        .skip))
                      (.seq
                       (.region [⟨some 128, none, .bin false .eql (.slot 19) (.lit (.c (.d (.v (.int .i64 8)))))⟩,
                        ⟨some 127, none, .move (.slot 128) true⟩])
                       (.cond (.slot 127)
                        (.seq
                         (.region [⟨some 129, none, .fieldAddr (.slot 4) 0⟩,
                          ⟨some 130, none, .load (.slot 129) false 1 false⟩,
                          ⟨some 131, none, .bin false .neq (.slot 130) (.lit (.c (.d (.v (.int .i64 0)))))⟩])
                         (.cond (.slot 131)
                          (.seq
                           (.region [⟨some 132, none, .load (.slot 3) true 6 false⟩,
                            ⟨some 133, none, .load (.slot 4) true 9 false⟩,
                            ⟨some 134, none, .fieldAddr (.slot 5) 20⟩,
                            ⟨some 135, none, .load (.slot 134) true 3 false⟩,
                            ⟨some 136, none, .call 25 [.slot 132, .slot 133, .slot 135]⟩,
                            ⟨some 137, none, .extract (.slot 136) 0 false⟩,
                            ⟨some 138, none, .extract (.slot 136) 1 false⟩,
                            ⟨none, none, .store (.slot 6) (.slot 137) 9⟩,
                            ⟨none, none, .store (.slot 7) (.slot 138) 5⟩])
                           .ret)
                          .skip))
                        (.seq
                         (.region [⟨some 20, none, .load (.slot 4) true 9 false⟩,
                          ⟨some 21, none, .build [.nilsl, .d (.v (.bool false)), .d (.v (.bool false)), .d (.v (.bool false)), .d (.v (.bool false))] []⟩,
                          ⟨none, none, .store (.slot 6) (.slot 20) 9⟩,
                          ⟨none, none, .store (.slot 7) (.slot 21) 5⟩])
                         .ret)))))))))))))))))))
      (.seq
       (.region [⟨some 139, none, .load (.slot 4) true 9 false⟩,
        ⟨some 140, none, .build [.nilsl, .d (.v (.bool false)), .d (.v (.bool false)), .d (.v (.bool false)), .d (.v (.bool false))] []⟩,
        ⟨none, none, .store (.slot 6) (.slot 139) 9⟩,
        ⟨none, none, .store (.slot 7) (.slot 140) 5⟩])
       .ret)))))

theorem F17 : Fn Try.prog 17 Try.f17 141 [] [.cell 6 true 9, .cell 7 true 5] c17 where
  hm := by kernel_rfl
  hf := Try.func17
  hb := by kernel_rfl
  hc := by kernel_rfl
  hts := by kernel_rfl
  hnd := by decide
  hn := Nat.le_of_eq (by kernel_rfl)

def c18 : VC :=
  (.seq
   (.region [⟨some 2, none, .box 5 19 (.slot 0)⟩,
    ⟨some 3, none, .box 7 19 (.slot 1)⟩,
    ⟨some 4, none, .move (.lit (.c (.d (.v (.bool false))))) true⟩])
   (.seq
    (.region [⟨some 5, none, .fieldAddr (.slot 2) 0⟩,
     ⟨some 6, none, .load (.slot 5) false 1 false⟩,
     ⟨some 7, none, .fieldAddr (.slot 3) 0⟩,
     ⟨some 8, none, .load (.slot 7) false 1 false⟩,
     ⟨some 9, none, .bin false .eql (.slot 6) (.slot 8)⟩,
     ⟨some 10, none, .move (.slot 9) false⟩,
     ⟨some 11, some (10, true), .fieldAddr (.slot 2) 1⟩,
     ⟨some 12, some (10, true), .load (.slot 11) true 4 false⟩,
     ⟨some 13, some (10, true), .fieldAddr (.slot 3) 1⟩,
     ⟨some 14, some (10, true), .load (.slot 13) true 4 false⟩,
     ⟨some 15, some (10, true), .eqAgg false [1, 1, 1, 0] (.slot 12) (.slot 14)⟩,
     ⟨some 16, none, .pick (.slot 10) (.slot 15) (.lit (.c (.d (.v (.bool false)))))⟩,
     ⟨some 17, none, .move (.slot 16) false⟩,
     ⟨some 18, some (17, true), .fieldAddr (.slot 2) 5⟩,
     ⟨some 19, some (17, true), .load (.slot 18) true 11 false⟩,
     ⟨some 20, some (17, true), .fieldAddr (.slot 3) 5⟩,
     ⟨some 21, some (17, true), .load (.slot 20) true 11 false⟩,
     ⟨some 22, some (17, true), .call 28 [.slot 19, .slot 21]⟩,
     ⟨some 23, none, .pick (.slot 17) (.slot 22) (.lit (.c (.d (.v (.bool false)))))⟩,
     ⟨some 24, none, .move (.slot 23) false⟩,
     ⟨some 25, some (24, true), .fieldAddr (.slot 2) 16⟩,
     ⟨some 26, some (24, true), .load (.slot 25) true 3 false⟩,
     ⟨some 27, some (24, true), .fieldAddr (.slot 3) 16⟩,
     ⟨some 28, some (24, true), .load (.slot 27) true 3 false⟩,
     ⟨some 29, some (24, true), .call 8 [.slot 26, .slot 28]⟩,
     ⟨some 30, none, .pick (.slot 24) (.slot 29) (.lit (.c (.d (.v (.bool false)))))⟩,
     ⟨some 4, none, .move (.slot 30) true⟩])
    .ret))

theorem F18 : Fn Try.prog 18 Try.f18 31 [] [.t 4] c18 where
  hm := by kernel_rfl
  hf := Try.func18
  hb := by kernel_rfl
  hc := by kernel_rfl
  hts := by kernel_rfl
  hnd := by decide
  hn := Nat.le_of_eq (by kernel_rfl)

def c19 : VC :=
  (.seq
   (.region [⟨some 1, none, .box 3 19 (.slot 0)⟩,
    ⟨some 2, none, .alloc 5 [.d (.v (.int .i64 0)), .d (.v (.int .u32 0)), .d (.v (.int .i64 0)), .d (.v (.int .u32 0)), .d (.v (.bool false)), .nilsl, .d (.v (.int .i64 0)), .d (.v (.int .i64 0)), .nilsl, .d (.v (.int .u32 0)), .d (.v (.int .u32 0)), .d (.v (.int .u32 0)), .d (.v (.int .u32 0)), .d (.v (.int .u32 0)), .nilsl, .nilsl, .d (.v (.int .i64 0)), .d (.v (.int .i64 0)), .nilsl]⟩])
   (.seq
    (.region [⟨some 4, none, .fieldAddr (.slot 1) 0⟩,
     ⟨some 5, none, .load (.slot 4) false 1 false⟩,
     ⟨some 6, none, .build [.d (.v (.int .i64 0)), .d (.v (.int .u32 0)), .d (.v (.int .i64 0)), .d (.v (.int .u32 0)), .d (.v (.bool false)), .nilsl, .d (.v (.int .i64 0)), .d (.v (.int .i64 0)), .nilsl, .d (.v (.int .u32 0)), .d (.v (.int .u32 0)), .d (.v (.int .u32 0)), .d (.v (.int .u32 0)), .d (.v (.int .u32 0)), .nilsl, .nilsl, .d (.v (.int .i64 0)), .d (.v (.int .i64 0)), .nilsl] [(0, (1, .slot 5))]⟩,
     ⟨some 3, none, .alloc 7 [.d (.v (.int .i64 0)), .d (.v (.int .u32 0)), .d (.v (.int .i64 0)), .d (.v (.int .u32 0)), .d (.v (.bool false)), .nilsl, .d (.v (.int .i64 0)), .d (.v (.int .i64 0)), .nilsl, .d (.v (.int .u32 0)), .d (.v (.int .u32 0)), .d (.v (.int .u32 0)), .d (.v (.int .u32 0)), .d (.v (.int .u32 0)), .nilsl, .nilsl, .d (.v (.int .i64 0)), .d (.v (.int .i64 0)), .nilsl]⟩,
     ⟨none, none, .store (.slot 3) (.slot 6) 19⟩])
    (.seq
     (.seq
      (.region [⟨some 7, none, .fieldAddr (.slot 1) 0⟩,
       ⟨some 8, none, .load (.slot 7) false 1 false⟩,
       ⟨some 9, none, .bin false .eql (.slot 8) (.lit (.c (.d (.v (.int .i64 1)))))⟩])
      (.cond (.slot 9)
       (.region [⟨some 10, none, .fieldAddr (.slot 1) 1⟩,
        ⟨some 11, none, .load (.slot 10) true 4 false⟩,
        ⟨some 12, none, .fieldAddr (.slot 3) 1⟩,
        ⟨none, none, .store (.slot 12) (.slot 11) 4⟩])
       .skip))
     (.seq
      (.seq
       (.region [⟨some 13, none, .fieldAddr (.slot 1) 0⟩,
        ⟨some 14, none, .load (.slot 13) false 1 false⟩,
        ⟨some 15, none, .bin false .eql (.slot 14) (.lit (.c (.d (.v (.int .i64 2)))))⟩])
       (.cond (.slot 15)
        (.region [⟨some 16, none, .fieldAddr (.slot 1) 5⟩,
         ⟨some 17, none, .load (.slot 16) true 11 false⟩,
         ⟨some 18, none, .fieldAddr (.slot 3) 5⟩,
         ⟨none, none, .store (.slot 18) (.slot 17) 11⟩])
        .skip))
      (.seq
       (.seq
        (.region [⟨some 19, none, .fieldAddr (.slot 1) 0⟩,
         ⟨some 20, none, .load (.slot 19) false 1 false⟩,
         ⟨some 21, none, .bin false .eql (.slot 20) (.lit (.c (.d (.v (.int .i64 3)))))⟩])
        (.cond (.slot 21)
         (.region [⟨some 22, none, .fieldAddr (.slot 1) 16⟩,
          ⟨some 23, none, .load (.slot 22) true 3 false⟩,
          ⟨some 24, none, .fieldAddr (.slot 3) 16⟩,
          ⟨none, none, .store (.slot 24) (.slot 23) 3⟩])
         .skip))
       (.seq
        (.seq
         (.region [⟨some 25, none, .fieldAddr (.slot 1) 0⟩,
          ⟨some 26, none, .load (.slot 25) false 1 false⟩,
          ⟨some 27, none, .bin false .lss (.slot 26) (.lit (.c (.d (.v (.int .i64 1)))))⟩,
          ⟨some 28, none, .move (.slot 27) false⟩,
          ⟨some 29, some (28, false), .fieldAddr (.slot 1) 0⟩,
          ⟨some 30, some (28, false), .load (.slot 29) false 1 false⟩,
          ⟨some 31, some (28, false), .bin false .gtr (.slot 30) (.lit (.c (.d (.v (.int .i64 4)))))⟩,
          ⟨some 32, none, .pick (.slot 28) (.lit (.c (.d (.v (.bool true))))) (.slot 31)⟩])
         (.cond (.slot 32)
          (.seq
           (.region [⟨some 33, none, .build [.d (.v (.int .i64 0)), .d (.v (.int .u32 0)), .d (.v (.int .i64 0)), .d (.v (.int .u32 0)), .d (.v (.bool false)), .nilsl, .d (.v (.int .i64 0)), .d (.v (.int .i64 0)), .nilsl, .d (.v (.int .u32 0)), .d (.v (.int .u32 0)), .d (.v (.int .u32 0)), .d (.v (.int .u32 0)), .d (.v (.int .u32 0)), .nilsl, .nilsl, .d (.v (.int .i64 0)), .d (.v (.int .i64 0)), .nilsl] []⟩,
            ⟨none, none, .store (.slot 2) (.slot 33) 19⟩])
           .ret)
          .skip))
        (.seq
         (.region [⟨some 34, none, .load (.slot 3) true 19 false⟩,
          ⟨none, none, .store (.slot 2) (.slot 34) 19⟩])
         .ret)))))))

theorem F19 : Fn Try.prog 19 Try.f19 35 [] [.cell 2 true 19] c19 where
  hm := by kernel_rfl
  hf := Try.func19
  hb := by kernel_rfl
  hc := by kernel_rfl
  hts := by kernel_rfl
  hnd := by decide
  hn := Nat.le_of_eq (by kernel_rfl)

def c23 : VC :=
  (.seq
   (.region [⟨some 2, none, .move (.lit (.c .nilsl)) true⟩])
   (.seq
    (.region [⟨some 3, none, .move (.lit (.c (.d (.v (.int .i64 0))))) true⟩])
    (.seq
     (.seq
      (.region [⟨some 9, none, .move (.slot 0) false⟩,
       ⟨some 10, none, .len (.slot 9)⟩,
       ⟨some 11, none, .move (.lit (.c (.d (.v (.int .i64 0))))) false⟩])
      (.block 0
       (.loop
        (.seq
         (.region [⟨some 12, none, .bin false .lss (.slot 11) (.slot 10)⟩])
         (.seq
          (.cond (.slot 12)
           .skip
           (.exit 0))
          (.seq
           (.block 1
            (.seq
             (.region [⟨some 13, none, .indexAddr (.slot 9) (.slot 11) 1⟩,
              ⟨some 14, none, .load (.slot 13) false 1 false⟩,
              ⟨some 5, none, .move (.slot 14) true⟩])
             (.seq
              (.region [⟨some 15, none, .move (.slot 3) false⟩,
               ⟨some 16, none, .move (.slot 5) false⟩,
               ⟨some 17, none, .len (.slot 16)⟩,
               ⟨some 18, none, .bin false .add (.slot 15) (.slot 17)⟩,
               ⟨some 3, none, .move (.slot 18) true⟩])
              (.seq
               (.region [⟨some 19, none, .move (.slot 3) false⟩,
                ⟨some 20, none, .bin false .lss (.slot 19) (.lit (.c (.d (.v (.int .i64 0)))))⟩])
               (.cond (.slot 20)
                .dead
                .skip)))))
           (.region [⟨some 22, none, .bin false .add (.slot 11) (.lit (.c (.d (.v (.int .i64 1)))))⟩,
            ⟨some 11, none, .move (.slot 22) false⟩])))))))
     (.seq
      (.region [⟨some 23, none, .move (.slot 3) false⟩,
       ⟨some 24, none, .call 30 [.lit (.c .nilsl), .slot 23]⟩,
       ⟨some 6, none, .move (.slot 24) true⟩])
      (.seq
       (.seq
        (.region [⟨some 25, none, .move (.slot 0) false⟩,
         ⟨some 26, none, .len (.slot 25)⟩,
         ⟨some 27, none, .move (.lit (.c (.d (.v (.int .i64 0))))) false⟩])
        (.block 2
         (.loop
          (.seq
           (.region [⟨some 28, none, .bin false .lss (.slot 27) (.slot 26)⟩])
           (.seq
            (.cond (.slot 28)
             .skip
             (.exit 2))
            (.seq
             (.block 3
              (.seq
               (.region [⟨some 29, none, .indexAddr (.slot 25) (.slot 27) 1⟩,
                ⟨some 30, none, .load (.slot 29) false 1 false⟩,
                ⟨some 8, none, .move (.slot 30) true⟩])
               (.region [⟨some 31, none, .move (.slot 6) true⟩,
                ⟨some 32, none, .move (.slot 8) false⟩,
                ⟨some 33, none, .append false 59 19 208 (.slot 31) (.slot 32)⟩,
                ⟨some 6, none, .move (.slot 33) true⟩])))
             (.region [⟨some 34, none, .bin false .add (.slot 27) (.lit (.c (.d (.v (.int .i64 1)))))⟩,
              ⟨some 27, none, .move (.slot 34) false⟩])))))))
       (.seq
        (.region [⟨some 35, none, .move (.slot 6) true⟩,
         ⟨some 2, none, .move (.slot 35) true⟩])
        .ret))))))

theorem F23 : Fn Try.prog 23 Try.f23 36 [31,33,35] [.t 2] c23 where
  hm := by kernel_rfl
  hf := Try.func23
  hb := by kernel_rfl
  hc := by kernel_rfl
  hts := by kernel_rfl
  hnd := by decide
  hn := Nat.le_of_eq (by kernel_rfl)

def c27 : VC :=
  (.seq
   (.region [⟨some 3, none, .box 7 6 (.slot 0)⟩,
    ⟨some 4, none, .box 9 9 (.slot 1)⟩,
    ⟨some 5, none, .box 11 19 (.slot 2)⟩,
    ⟨some 6, none, .alloc 13 [.d (.v (.int .i64 0)), .d (.v (.int .i64 0)), .d (.v (.int .i64 0)), .d (.v (.int .i64 0)), .d (.v (.int .i64 0)), .d (.v (.int .u32 0)), .d (.v (.int .i64 0)), .d (.v (.int .u32 0)), .d (.v (.bool false))]⟩,
    ⟨some 7, none, .alloc 15 [.nilsl, .d (.v (.bool false)), .d (.v (.bool false)), .d (.v (.bool false)), .d (.v (.bool false))]⟩])
   (.seq
    (.region [⟨some 12, none, .fieldAddr (.slot 4) 0⟩,
     ⟨some 13, none, .load (.slot 12) false 1 false⟩,
     ⟨some 14, none, .bin false .sub (.slot 13) (.lit (.c (.d (.v (.int .i64 2)))))⟩,
     ⟨some 15, none, .build [.d (.v (.int .i64 0)), .d (.v (.int .i64 0)), .nilsl] [(0, (1, .lit (.c (.d (.v (.int .i64 5)))))), (1, (1, .slot 14))]⟩,
     ⟨some 8, none, .alloc 17 [.d (.v (.int .i64 0)), .d (.v (.int .i64 0)), .nilsl]⟩,
     ⟨none, none, .store (.slot 8) (.slot 15) 3⟩])
    (.seq
     (.seq
      (.region [⟨some 16, none, .fieldAddr (.slot 5) 0⟩,
       ⟨some 17, none, .load (.slot 16) false 1 false⟩])
      (.block 0
       (.seq
        (.region [⟨some 21, none, .bin false .eql (.slot 17) (.lit (.c (.d (.v (.int .i64 1)))))⟩,
         ⟨some 20, none, .move (.slot 21) true⟩])
        (.cond (.slot 20)
         (.seq
          (.seq
           (.region [⟨some 22, none, .fieldAddr (.slot 4) 0⟩,
            ⟨some 23, none, .load (.slot 22) false 1 false⟩,
            ⟨some 24, none, .bin false .neq (.slot 23) (.lit (.c (.d (.v (.int .i64 3)))))⟩])
           (.cond (.slot 24)
            (.seq
             (.region [⟨some 25, none, .load (.slot 3) true 6 false⟩,
              ⟨some 26, none, .load (.slot 4) true 9 false⟩,
              ⟨some 27, none, .load (.slot 8) true 3 false⟩,
              ⟨some 28, none, .call 25 [.slot 25, .slot 26, .slot 27]⟩,
              ⟨some 29, none, .extract (.slot 28) 0 false⟩,
              ⟨some 30, none, .extract (.slot 28) 1 false⟩,
              ⟨none, none, .store (.slot 6) (.slot 29) 9⟩,
              ⟨none, none, .store (.slot 7) (.slot 30) 5⟩])
             .ret)
            .skip))
          (.seq
           (.seq
            (.region [⟨some 31, none, .fieldAddr (.slot 5) 1⟩,
             ⟨some 32, none, .load (.slot 31) true 4 false⟩,
             ⟨some 33, none, .fieldAddr (.slot 3) 2⟩,
             ⟨some 34, none, .load (.slot 33) false 1 false⟩,
             ⟨some 35, none, .fieldAddr (.slot 3) 1⟩,
             ⟨some 36, none, .load (.slot 35) false 1 false⟩,
             ⟨some 37, none, .call 33 [.slot 32, .slot 34, .slot 36]⟩,
             ⟨some 9, none, .alloc 19 [.d (.v (.int .i64 0)), .d (.v (.int .i64 0)), .nilsl]⟩,
             ⟨none, none, .store (.slot 9) (.slot 37) 3⟩])
            (.seq
             (.region [⟨some 38, none, .fieldAddr (.slot 9) 0⟩,
              ⟨some 39, none, .load (.slot 38) false 1 false⟩,
              ⟨some 40, none, .bin false .neq (.slot 39) (.lit (.c (.d (.v (.int .i64 0)))))⟩])
             (.cond (.slot 40)
              (.seq
               (.region [⟨some 41, none, .load (.slot 3) true 6 false⟩,
                ⟨some 42, none, .load (.slot 4) true 9 false⟩,
                ⟨some 43, none, .load (.slot 9) true 3 false⟩,
                ⟨some 44, none, .call 25 [.slot 41, .slot 42, .slot 43]⟩,
                ⟨some 45, none, .extract (.slot 44) 0 false⟩,
                ⟨some 46, none, .extract (.slot 44) 1 false⟩,
                ⟨none, none, .store (.slot 6) (.slot 45) 9⟩,
                ⟨none, none, .store (.slot 7) (.slot 46) 5⟩])
               .ret)
              .skip)))
           (.seq
            (.region [⟨some 47, none, .fieldAddr (.slot 3) 3⟩,
             ⟨some 48, none, .load (.slot 47) false 1 false⟩,
             ⟨some 49, none, .fieldAddr (.slot 5) 1⟩,
             ⟨some 50, none, .fieldAddr (.slot 49) 1⟩,
             ⟨some 51, none, .load (.slot 50) false 1 false⟩,
             ⟨some 52, none, .call 34 [.slot 48, .slot 51]⟩,
             ⟨some 10, none, .move (.slot 52) true⟩])
            (.seq
             (.draw [(3, 5), (5, 7)] [⟨some 53, none, .move (.slot 10) false⟩,
              ⟨some 54, none, .move (.slot 10) false⟩,
              ⟨some 55, none, .move (.slot 10) false⟩,
              ⟨some 56, none, .call 32 [.slot 55]⟩,
              ⟨some 57, none, .fieldAddr (.slot 5) 1⟩,
              ⟨some 58, none, .load (.slot 57) true 4 false⟩,
              ⟨some 59, none, .build [.d (.v (.int .i64 0)), .d (.v (.int .i64 0)), .d (.v (.int .i64 0)), .d (.v (.int .i64 0)), .d (.v (.int .i64 0)), .d (.v (.int .u32 0)), .d (.v (.int .i64 0)), .d (.v (.int .u32 0)), .d (.v (.bool false))] [(0, (1, .lit (.c (.d (.v (.int .i64 4)))))), (1, (1, .slot 53)), (2, (1, .slot 54)), (3, (1, .slot 56)), (5, (4, .slot 58))]⟩,
              ⟨some 60, none, .call 31 []⟩,
              ⟨some 61, none, .buildSlice 59 19 1 [.v (.int .i64 0), .v (.int .u32 0), .v (.int .i64 0), .v (.int .u32 0), .v (.bool false), .sl [], .v (.int .i64 0), .v (.int .i64 0), .sl [], .v (.int .u32 0), .v (.int .u32 0), .v (.int .u32 0), .v (.int .u32 0), .v (.int .u32 0), .sl [], .sl [], .v (.int .i64 0), .v (.int .i64 0), .sl []] [(0, .slot 60)]⟩,
              ⟨some 62, none, .build [.nilsl, .d (.v (.bool false)), .d (.v (.bool false)), .d (.v (.bool false)), .d (.v (.bool false))] [(0, (1, .slot 61))]⟩,
              ⟨none, none, .store (.slot 6) (.slot 59) 9⟩,
              ⟨none, none, .store (.slot 7) (.slot 62) 5⟩])
             .ret))))
         (.seq
          (.region [⟨some 64, none, .bin false .eql (.slot 17) (.lit (.c (.d (.v (.int .i64 2)))))⟩,
           ⟨some 63, none, .move (.slot 64) true⟩])
          (.cond (.slot 63)
           (.seq
            (.seq
             (.region [⟨some 65, none, .fieldAddr (.slot 4) 0⟩,
              ⟨some 66, none, .load (.slot 65) false 1 false⟩,
              ⟨some 67, none, .bin false .neq (.slot 66) (.lit (.c (.d (.v (.int .i64 5)))))⟩])
             (.cond (.slot 67)
              (.seq
               (.region [⟨some 68, none, .load (.slot 3) true 6 false⟩,
                ⟨some 69, none, .load (.slot 4) true 9 false⟩,
                ⟨some 70, none, .load (.slot 8) true 3 false⟩,
                ⟨some 71, none, .call 25 [.slot 68, .slot 69, .slot 70]⟩,
                ⟨some 72, none, .extract (.slot 71) 0 false⟩,
                ⟨some 73, none, .extract (.slot 71) 1 false⟩,
                ⟨none, none, .store (.slot 6) (.slot 72) 9⟩,
                ⟨none, none, .store (.slot 7) (.slot 73) 5⟩])
               .ret)
              .skip))
            (.region [⟨some 74, none, .fieldAddr (.slot 4) 1⟩,
             ⟨some 75, none, .load (.slot 74) false 1 false⟩,
             ⟨some 76, none, .fieldAddr (.slot 4) 2⟩,
             ⟨none, none, .store (.slot 76) (.slot 75) 1⟩]))
           (.seq
            (.region [⟨some 78, none, .bin false .eql (.slot 17) (.lit (.c (.d (.v (.int .i64 3)))))⟩,
             ⟨some 77, none, .move (.slot 78) true⟩])
            (.cond (.slot 77)
             (.seq
              (.region [⟨some 79, none, .load (.slot 3) true 6 false⟩,
               ⟨some 80, none, .load (.slot 4) true 9 false⟩,
               ⟨some 81, none, .build [.d (.v (.int .i64 0)), .d (.v (.int .i64 0)), .nilsl] []⟩,
               ⟨some 82, none, .call 25 [.slot 79, .slot 80, .slot 81]⟩,
               ⟨some 83, none, .extract (.slot 82) 0 false⟩,
               ⟨some 84, none, .extract (.slot 82) 1 false⟩,
               ⟨none, none, .store (.slot 6) (.slot 83) 9⟩,
               ⟨none, none, .store (.slot 7) (.slot 84) 5⟩])
              .ret)
             (.seq
              (.region [⟨some 86, none, .bin false .eql (.slot 17) (.lit (.c (.d (.v (.int .i64 4)))))⟩,
               ⟨some 85, none, .move (.slot 86) true⟩])
              (.cond (.slot 85)
               (.seq
                (.seq
                 (.region [⟨some 87, none, .fieldAddr (.slot 4) 0⟩,
                  ⟨some 88, none, .load (.slot 87) false 1 false⟩,
                  ⟨some 89, none, .bin false .eql (.slot 88) (.lit (.c (.d (.v (.int .i64 3)))))⟩])
                 (.cond (.slot 89)
                  (.seq
                   (.region [⟨some 90, none, .load (.slot 3) true 6 false⟩,
                    ⟨some 91, none, .load (.slot 4) true 9 false⟩,
                    ⟨some 92, none, .load (.slot 8) true 3 false⟩,
                    ⟨some 93, none, .call 25 [.slot 90, .slot 91, .slot 92]⟩,
                    ⟨some 94, none, .extract (.slot 93) 0 false⟩,
                    ⟨some 95, none, .extract (.slot 93) 1 false⟩,
                    ⟨none, none, .store (.slot 6) (.slot 94) 9⟩,
                    ⟨none, none, .store (.slot 7) (.slot 95) 5⟩])
                   .ret)
                  .skip))
                (.seq
                 (.region [⟨some 96, none, .fieldAddr (.slot 4) 0⟩,
                  ⟨some 97, none, .load (.slot 96) false 1 false⟩,
                  ⟨some 98, none, .bin false .eql (.slot 97) (.lit (.c (.d (.v (.int .i64 4)))))⟩,
                  ⟨some 11, none, .move (.slot 98) true⟩])
                 (.seq
                  (.region [⟨some 99, none, .fieldAddr (.slot 4) 1⟩,
                   ⟨some 100, none, .load (.slot 99) false 1 false⟩,
                   ⟨some 101, none, .fieldAddr (.slot 4) 0⟩,
                   ⟨none, none, .store (.slot 101) (.lit (.c (.d (.v (.int .i64 5))))) 1⟩,
                   ⟨some 102, none, .fieldAddr (.slot 4) 2⟩,
                   ⟨none, none, .store (.slot 102) (.slot 100) 1⟩])
                  (.seq
                   (.region [⟨some 103, none, .load (.slot 4) true 9 false⟩,
                    ⟨some 104, none, .move (.slot 11) false⟩,
                    ⟨some 105, none, .build [.nilsl, .d (.v (.bool false)), .d (.v (.bool false)), .d (.v (.bool false)), .d (.v (.bool false))] [(3, (1, .slot 104))]⟩,
                    ⟨none, none, .store (.slot 6) (.slot 103) 9⟩,
                    ⟨none, none, .store (.slot 7) (.slot 105) 5⟩])
                   .ret))))
               (.seq
                (.region [⟨some 18, none, .load (.slot 4) true 9 false⟩,
                 ⟨some 19, none, .build [.nilsl, .d (.v (.bool false)), .d (.v (.bool false)), .d (.v (.bool false)), .d (.v (.bool false))] []⟩,
                 ⟨none, none, .store (.slot 6) (.slot 18) 9⟩,
                 ⟨none, none, .store (.slot 7) (.slot 19) 5⟩])
                .ret)))))))))))
     (.seq
      (.region [⟨some 106, none, .load (.slot 4) true 9 false⟩,
       ⟨some 107, none, .build [.nilsl, .d (.v (.bool false)), .d (.v (.bool false)), .d (.v (.bool false)), .d (.v (.bool false))] []⟩,
       ⟨none, none, .store (.slot 6) (.slot 106) 9⟩,
       ⟨none, none, .store (.slot 7) (.slot 107) 5⟩])
      .ret))))

theorem F27 : Fn Try.prog 27 Try.f27 108 [] [.cell 6 true 9, .cell 7 true 5] c27 where
  hm := by kernel_rfl
  hf := Try.func27
  hb := by kernel_rfl
  hc := by kernel_rfl
  hts := by kernel_rfl
  hnd := by decide
  hn := Nat.le_of_eq (by kernel_rfl)

def c30 : VC :=
  (.seq
   (.region [⟨some 4, none, .move (.lit (.c .nilsl)) true⟩])
   (.seq
    (.seq
     (.region [⟨some 5, none, .move (.slot 1) false⟩,
      ⟨some 6, none, .bin false .lss (.slot 5) (.lit (.c (.d (.v (.int .i64 0)))))⟩])
     (.cond (.slot 6)
      .dead
      .skip))
    (.seq
     (.seq
      .dead
      (.seq
       (.region [⟨some 15, none, .move (.slot 1) false⟩,
        ⟨some 16, none, .bin false .gtr (.slot 15) (.lit (.c (.d (.v (.int .i64 0)))))⟩])
       (.cond (.slot 16)
        .dead
        .skip)))
     (.seq
      (.region [⟨some 26, none, .move (.slot 0) false⟩,
       ⟨some 4, none, .move (.slot 26) true⟩])
      .ret))))

theorem F30 : Fn Try.prog 30 Try.f30 27 [] [.t 4] c30 where
  hm := by kernel_rfl
  hf := Try.func30
  hb := by kernel_rfl
  hc := by kernel_rfl
  hts := by kernel_rfl
  hnd := by decide
  hn := Nat.le_of_eq (by kernel_rfl)

def c37 : VC :=
  (.seq
   (.region [⟨some 3, none, .box 7 23 (.slot 1)⟩])
   (.seq
    (.region [⟨some 5, none, .move (.slot 0) false⟩,
     ⟨some 6, none, .nilCheck (.slot 5)⟩,
     ⟨some 7, none, .fieldAddr (.slot 6) 6⟩,
     ⟨some 8, none, .fieldAddr (.slot 7) 0⟩,
     ⟨some 9, none, .load (.slot 8) false 1 false⟩,
     ⟨some 4, none, .move (.slot 9) true⟩])
    (.block 0
     (.seq
      (.region [⟨some 11, none, .fieldAddr (.slot 3) 0⟩,
       ⟨some 12, none, .load (.slot 11) false 1 false⟩,
       ⟨some 13, none, .bin false .eql (.slot 12) (.lit (.c (.d (.v (.int .i64 1)))))⟩,
       ⟨some 14, none, .move (.slot 13) false⟩,
       ⟨some 15, some (14, true), .move (.slot 4) false⟩,
       ⟨some 16, some (14, true), .bin false .eql (.slot 15) (.lit (.c (.d (.v (.int .i64 0)))))⟩,
       ⟨some 17, none, .pick (.slot 14) (.slot 16) (.lit (.c (.d (.v (.bool false)))))⟩,
       ⟨some 10, none, .move (.slot 17) true⟩])
      (.cond (.slot 10)
       (.region [⟨some 18, none, .move (.slot 0) false⟩,
        ⟨some 19, none, .call 41 [.slot 18]⟩])
       (.seq
        (.region [⟨some 21, none, .fieldAddr (.slot 3) 0⟩,
         ⟨some 22, none, .load (.slot 21) false 1 false⟩,
         ⟨some 23, none, .bin false .eql (.slot 22) (.lit (.c (.d (.v (.int .i64 2)))))⟩,
         ⟨some 20, none, .move (.slot 23) true⟩])
        (.cond (.slot 20)
         (.region [⟨some 24, none, .move (.slot 0) false⟩,
          ⟨some 25, none, .call 42 [.slot 24]⟩])
         (.seq
          (.region [⟨some 27, none, .fieldAddr (.slot 3) 0⟩,
           ⟨some 28, none, .load (.slot 27) false 1 false⟩,
           ⟨some 29, none, .bin false .eql (.slot 28) (.lit (.c (.d (.v (.int .i64 3)))))⟩,
           ⟨some 30, none, .move (.slot 29) false⟩,
           ⟨some 31, some (30, true), .move (.slot 4) false⟩,
           ⟨some 32, some (30, true), .bin false .eql (.slot 31) (.lit (.c (.d (.v (.int .i64 1)))))⟩,
           ⟨some 33, some (30, true), .move (.slot 32) false⟩,
           ⟨some 34, some (33, false), .move (.slot 4) false⟩,
           ⟨some 35, some (33, false), .bin false .eql (.slot 34) (.lit (.c (.d (.v (.int .i64 2)))))⟩,
           ⟨some 36, some (30, true), .pick (.slot 33) (.lit (.c (.d (.v (.bool true))))) (.slot 35)⟩,
           ⟨some 37, none, .pick (.slot 30) (.slot 36) (.lit (.c (.d (.v (.bool false)))))⟩,
           ⟨some 26, none, .move (.slot 37) true⟩])
          (.cond (.slot 26)
           (.region [⟨some 38, none, .move (.slot 0) false⟩,
            ⟨some 39, none, .call 43 [.slot 38]⟩])
           (.seq
            (.region [⟨some 41, none, .fieldAddr (.slot 3) 0⟩,
             ⟨some 42, none, .load (.slot 41) false 1 false⟩,
             ⟨some 43, none, .bin false .eql (.slot 42) (.lit (.c (.d (.v (.int .i64 4)))))⟩,
             ⟨some 40, none, .move (.slot 43) true⟩])
            (.cond (.slot 40)
             (.region [⟨some 44, none, .move (.slot 0) false⟩,
              ⟨some 45, none, .call 44 [.slot 44]⟩])
             (.seq
              (.region [⟨some 47, none, .fieldAddr (.slot 3) 0⟩,
               ⟨some 48, none, .load (.slot 47) false 1 false⟩,
               ⟨some 49, none, .bin false .eql (.slot 48) (.lit (.c (.d (.v (.int .i64 5)))))⟩,
               ⟨some 46, none, .move (.slot 49) true⟩])
              (.cond (.slot 46)
               (.region [⟨some 50, none, .move (.slot 0) false⟩,
                ⟨some 51, none, .call 45 [.slot 50]⟩])
               (.seq
                (.region [⟨some 53, none, .fieldAddr (.slot 3) 0⟩,
                 ⟨some 54, none, .load (.slot 53) false 1 false⟩,
                 ⟨some 55, none, .bin false .eql (.slot 54) (.lit (.c (.d (.v (.int .i64 6)))))⟩,
                 ⟨some 56, none, .move (.slot 55) false⟩,
                 ⟨some 57, some (56, true), .move (.slot 0) false⟩,
                 ⟨some 58, some (56, true), .nilCheck (.slot 57)⟩,
                 ⟨some 59, some (56, true), .fieldAddr (.slot 58) 6⟩,
                 ⟨some 60, some (56, true), .load (.slot 59) true 9 false⟩,
                 ⟨some 61, some (56, true), .call 46 [.slot 60]⟩,
                 ⟨some 62, none, .pick (.slot 56) (.slot 61) (.lit (.c (.d (.v (.bool false)))))⟩,
                 ⟨some 52, none, .move (.slot 62) true⟩])
                (.cond (.slot 52)
                 (.region [⟨some 63, none, .move (.slot 0) false⟩,
                  ⟨some 64, none, .fieldAddr (.slot 3) 1⟩,
                  ⟨some 65, none, .load (.slot 64) true 19 false⟩,
                  ⟨some 66, none, .call 47 [.slot 63, .slot 65]⟩])
                 (.seq
                  (.region [⟨some 68, none, .fieldAddr (.slot 3) 0⟩,
                   ⟨some 69, none, .load (.slot 68) false 1 false⟩,
                   ⟨some 70, none, .bin false .eql (.slot 69) (.lit (.c (.d (.v (.int .i64 7)))))⟩,
                   ⟨some 71, none, .move (.slot 70) false⟩,
                   ⟨some 72, some (71, true), .move (.slot 0) false⟩,
                   ⟨some 73, some (71, true), .nilCheck (.slot 72)⟩,
                   ⟨some 74, some (71, true), .fieldAddr (.slot 73) 6⟩,
                   ⟨some 75, some (71, true), .load (.slot 74) true 9 false⟩,
                   ⟨some 76, some (71, true), .call 46 [.slot 75]⟩,
                   ⟨some 77, none, .pick (.slot 71) (.slot 76) (.lit (.c (.d (.v (.bool false)))))⟩,
                   ⟨some 67, none, .move (.slot 77) true⟩])
                  (.cond (.slot 67)
                   (.region [⟨some 78, none, .move (.slot 0) false⟩,
                    ⟨some 79, none, .fieldAddr (.slot 3) 20⟩,
                    ⟨some 80, none, .load (.slot 79) true 3 false⟩,
                    ⟨some 81, none, .call 48 [.slot 78, .slot 80]⟩])
                   (.seq
                    (.region [⟨some 83, none, .fieldAddr (.slot 3) 0⟩,
                     ⟨some 84, none, .load (.slot 83) false 1 false⟩,
                     ⟨some 85, none, .bin false .eql (.slot 84) (.lit (.c (.d (.v (.int .i64 8)))))⟩,
                     ⟨some 86, none, .move (.slot 85) false⟩,
                     ⟨some 87, some (86, true), .move (.slot 4) false⟩,
                     ⟨some 88, some (86, true), .bin false .neq (.slot 87) (.lit (.c (.d (.v (.int .i64 0)))))⟩,
                     ⟨some 89, none, .pick (.slot 86) (.slot 88) (.lit (.c (.d (.v (.bool false)))))⟩,
                     ⟨some 82, none, .move (.slot 89) true⟩])
                    (.cond (.slot 82)
                     (.region [⟨some 90, none, .move (.slot 0) false⟩,
                      ⟨some 91, none, .fieldAddr (.slot 3) 20⟩,
                      ⟨some 92, none, .load (.slot 91) true 3 false⟩,
                      ⟨some 93, none, .call 48 [.slot 90, .slot 92]⟩])
                     .skip)))))))))))))))))))

theorem F37 : Fn Try.prog 37 Try.f37 94 [] [] c37 where
  hm := by kernel_rfl
  hf := Try.func37
  hb := by kernel_rfl
  hc := by kernel_rfl
  hts := by kernel_rfl
  hnd := by decide
  hn := Nat.le_of_eq (by kernel_rfl)

def c43 : VC :=
  (.seq
   (.region [⟨some 2, none, .move (.slot 0) false⟩,
    ⟨some 3, none, .move (.slot 0) false⟩,
    ⟨some 4, none, .nilCheck (.slot 3)⟩,
    ⟨some 5, none, .fieldAddr (.slot 4) 0⟩,
    ⟨some 6, none, .load (.slot 5) true 6 false⟩,
    ⟨some 7, none, .call 52 [.slot 6]⟩,
    ⟨some 8, none, .call 51 [.slot 2, .slot 7]⟩])
   (.region [⟨some 9, none, .move (.slot 0) false⟩,
    ⟨some 10, none, .build [.d (.v (.int .i64 0)), .d (.v (.int .i64 0)), .d (.v (.int .i64 0)), .d (.v (.int .i64 0)), .d (.v (.int .i64 0)), .d (.v (.int .u32 0)), .d (.v (.int .i64 0)), .d (.v (.int .u32 0)), .d (.v (.bool false))] [(0, (1, .lit (.c (.d (.v (.int .i64 3)))))), (2, (1, .lit (.c (.d (.v (.int .i64 240))))))]⟩,
    ⟨some 11, none, .nilCheck (.slot 9)⟩,
    ⟨some 12, none, .fieldAddr (.slot 11) 6⟩,
    ⟨none, none, .store (.slot 12) (.slot 10) 9⟩]))

theorem F43 : Fn Try.prog 43 Try.f43 13 [] [] c43 where
  hm := by kernel_rfl
  hf := Try.func43
  hb := by kernel_rfl
  hc := by kernel_rfl
  hts := by kernel_rfl
  hnd := by decide
  hn := Nat.le_of_eq (by kernel_rfl)

def c46 : VC :=
  (.seq
   (.region [⟨some 1, none, .box 3 9 (.slot 0)⟩,
    ⟨some 2, none, .move (.lit (.c (.d (.v (.bool false))))) true⟩])
   (.seq
    (.region [⟨some 3, none, .fieldAddr (.slot 1) 0⟩,
     ⟨some 4, none, .load (.slot 3) false 1 false⟩,
     ⟨some 5, none, .bin false .geq (.slot 4) (.lit (.c (.d (.v (.int .i64 3)))))⟩,
     ⟨some 6, none, .move (.slot 5) false⟩,
     ⟨some 7, some (6, true), .fieldAddr (.slot 1) 0⟩,
     ⟨some 8, some (6, true), .load (.slot 7) false 1 false⟩,
     ⟨some 9, some (6, true), .bin false .leq (.slot 8) (.lit (.c (.d (.v (.int .i64 5)))))⟩,
     ⟨some 10, none, .pick (.slot 6) (.slot 9) (.lit (.c (.d (.v (.bool false)))))⟩,
     ⟨some 2, none, .move (.slot 10) true⟩])
    .ret))

theorem F46 : Fn Try.prog 46 Try.f46 11 [] [.t 2] c46 where
  hm := by kernel_rfl
  hf := Try.func46
  hb := by kernel_rfl
  hc := by kernel_rfl
  hts := by kernel_rfl
  hnd := by decide
  hn := Nat.le_of_eq (by kernel_rfl)

def c47 : VC :=
  (.seq
   (.region [⟨some 3, none, .box 7 19 (.slot 1)⟩])
   (.seq
    (.region [⟨some 5, none, .move (.slot 0) false⟩,
     ⟨some 6, none, .nilCheck (.slot 5)⟩,
     ⟨some 7, none, .fieldAddr (.slot 6) 6⟩,
     ⟨some 8, none, .fieldAddr (.slot 7) 0⟩,
     ⟨some 9, none, .load (.slot 8) false 1 false⟩,
     ⟨some 4, none, .move (.slot 9) true⟩])
    (.seq
     (.region [⟨some 10, none, .fieldAddr (.slot 3) 0⟩,
      ⟨some 11, none, .load (.slot 10) false 1 false⟩])
     (.block 0
      (.seq
       (.region [⟨some 13, none, .bin false .eql (.slot 11) (.lit (.c (.d (.v (.int .i64 1)))))⟩,
        ⟨some 12, none, .move (.slot 13) true⟩])
       (.cond (.slot 12)
        (.region [⟨some 14, none, .move (.slot 0) false⟩,
         ⟨some 15, none, .fieldAddr (.slot 3) 1⟩,
         ⟨some 16, none, .load (.slot 15) true 4 false⟩,
         ⟨some 17, none, .call 56 [.slot 14, .slot 16]⟩])
        (.seq
         (.region [⟨some 19, none, .bin false .eql (.slot 11) (.lit (.c (.d (.v (.int .i64 3)))))⟩,
          ⟨some 18, none, .move (.slot 19) true⟩])
         (.cond (.slot 18)
          (.region [⟨some 20, none, .move (.slot 0) false⟩,
           ⟨some 21, none, .build [.d (.v (.int .i64 0)), .d (.v (.int .i64 0)), .nilsl] []⟩,
           ⟨some 22, none, .call 48 [.slot 20, .slot 21]⟩])
          (.seq
           (.region [⟨some 24, none, .bin false .eql (.slot 11) (.lit (.c (.d (.v (.int .i64 4)))))⟩,
            ⟨some 23, none, .move (.slot 24) true⟩])
           (.cond (.slot 23)
            (.seq
             (.seq
              (.region [⟨some 25, none, .move (.slot 4) false⟩,
               ⟨some 26, none, .bin false .eql (.slot 25) (.lit (.c (.d (.v (.int .i64 3)))))⟩])
              (.cond (.slot 26)
               (.seq
                (.region [⟨some 27, none, .move (.slot 0) false⟩,
                 ⟨some 28, none, .call 57 [.slot 27]⟩])
                .ret)
               .skip))
             (.region [⟨some 29, none, .move (.slot 0) false⟩,
              ⟨some 30, none, .call 58 [.slot 29]⟩]))
            (.seq
             (.region [⟨some 32, none, .bin false .eql (.slot 11) (.lit (.c (.d (.v (.int .i64 2)))))⟩,
              ⟨some 31, none, .move (.slot 32) true⟩])
             (.cond (.slot 31)
              (.seq
               (.seq
                (.region [⟨some 33, none, .move (.slot 4) false⟩,
                 ⟨some 34, none, .bin false .neq (.slot 33) (.lit (.c (.d (.v (.int .i64 5)))))⟩])
                (.cond (.slot 34)
                 (.seq
                  (.region [⟨some 35, none, .move (.slot 0) false⟩,
                   ⟨some 36, none, .call 57 [.slot 35]⟩])
                  .ret)
                 .skip))
               (.region [⟨some 37, none, .move (.slot 0) false⟩,
                ⟨some 38, none, .call 58 [.slot 37]⟩]))
              .skip))))))))))))

theorem F47 : Fn Try.prog 47 Try.f47 39 [] [] c47 where
  hm := by kernel_rfl
  hf := Try.func47
  hb := by kernel_rfl
  hc := by kernel_rfl
  hts := by kernel_rfl
  hnd := by decide
  hn := Nat.le_of_eq (by kernel_rfl)

def c48 : VC :=
  (.seq
   (.region [⟨some 3, none, .box 7 3 (.slot 1)⟩])
   (.seq
    (.seq
     (.region [⟨some 4, none, .move (.slot 0) false⟩,
      ⟨some 5, none, .nilCheck (.slot 4)⟩,
      ⟨some 6, none, .fieldAddr (.slot 5) 6⟩,
      ⟨some 7, none, .load (.slot 6) true 9 false⟩,
      ⟨some 8, none, .call 46 [.slot 7]⟩,
      ⟨some 9, none, .move (.slot 8) false⟩,
      ⟨some 10, some (9, true), .fieldAddr (.slot 3) 0⟩,
      ⟨some 11, some (9, true), .load (.slot 10) false 1 false⟩,
      ⟨some 12, some (9, true), .bin false .neq (.slot 11) (.lit (.c (.d (.v (.int .i64 0)))))⟩,
      ⟨some 13, none, .pick (.slot 9) (.slot 12) (.lit (.c (.d (.v (.bool false)))))⟩])
     (.cond (.slot 13)
      (.seq
       (.region [⟨some 14, none, .fieldAddr (.slot 3) 2⟩,
        ⟨some 15, none, .load (.slot 14) false 1 false⟩,
        ⟨some 16, none, .call 59 [.slot 15]⟩,
        ⟨some 17, none, .fieldAddr (.slot 3) 2⟩,
        ⟨none, none, .store (.slot 17) (.slot 16) 1⟩])
       (.region [⟨some 18, none, .move (.slot 0) false⟩,
        ⟨some 19, none, .load (.slot 3) true 3 false⟩,
        ⟨some 20, none, .build [.d (.v (.int .i64 0)), .d (.v (.int .u32 0)), .d (.v (.int .i64 0)), .d (.v (.int .u32 0)), .d (.v (.bool false)), .nilsl, .d (.v (.int .i64 0)), .d (.v (.int .i64 0)), .nilsl, .d (.v (.int .u32 0)), .d (.v (.int .u32 0)), .d (.v (.int .u32 0)), .d (.v (.int .u32 0)), .d (.v (.int .u32 0)), .nilsl, .nilsl, .d (.v (.int .i64 0)), .d (.v (.int .i64 0)), .nilsl] [(0, (1, .lit (.c (.d (.v (.int .i64 3)))))), (16, (3, .slot 19))]⟩,
        ⟨some 21, none, .call 51 [.slot 18, .slot 20]⟩]))
      .skip))
    (.seq
     (.region [⟨some 22, none, .move (.slot 0) false⟩,
      ⟨some 23, none, .move (.slot 0) false⟩,
      ⟨some 24, none, .nilCheck (.slot 23)⟩,
      ⟨some 25, none, .fieldAddr (.slot 24) 6⟩,
      ⟨some 26, none, .load (.slot 25) true 9 false⟩,
      ⟨some 27, none, .call 46 [.slot 26]⟩,
      ⟨some 28, none, .move (.slot 27) false⟩,
      ⟨some 29, some (28, false), .move (.slot 0) false⟩,
      ⟨some 30, some (28, false), .nilCheck (.slot 29)⟩,
      ⟨some 31, some (28, false), .fieldAddr (.slot 30) 6⟩,
      ⟨some 32, some (28, false), .fieldAddr (.slot 31) 0⟩,
      ⟨some 33, some (28, false), .load (.slot 32) false 1 false⟩,
      ⟨some 34, some (28, false), .bin false .eql (.slot 33) (.lit (.c (.d (.v (.int .i64 1)))))⟩,
      ⟨some 35, none, .pick (.slot 28) (.lit (.c (.d (.v (.bool true))))) (.slot 34)⟩,
      ⟨some 36, none, .nilCheck (.slot 22)⟩,
      ⟨some 37, none, .fieldAddr (.slot 36) 15⟩,
      ⟨some 38, none, .fieldAddr (.slot 37) 2⟩,
      ⟨none, none, .store (.slot 38) (.slot 35) 1⟩])
     (.seq
      (.region [⟨some 39, none, .move (.slot 0) false⟩,
       ⟨some 40, none, .move (.slot 0) false⟩,
       ⟨some 41, none, .nilCheck (.slot 40)⟩,
       ⟨some 42, none, .fieldAddr (.slot 41) 6⟩,
       ⟨some 43, none, .fieldAddr (.slot 42) 0⟩,
       ⟨some 44, none, .load (.slot 43) false 1 false⟩,
       ⟨some 45, none, .bin false .eql (.slot 44) (.lit (.c (.d (.v (.int .i64 5)))))⟩,
       ⟨some 46, none, .nilCheck (.slot 39)⟩,
       ⟨some 47, none, .fieldAddr (.slot 46) 15⟩,
       ⟨some 48, none, .fieldAddr (.slot 47) 4⟩,
       ⟨none, none, .store (.slot 48) (.slot 45) 1⟩])
      (.region [⟨some 49, none, .move (.slot 0) false⟩,
       ⟨some 50, none, .move (.slot 0) false⟩,
       ⟨some 51, none, .nilCheck (.slot 50)⟩,
       ⟨some 52, none, .fieldAddr (.slot 51) 0⟩,
       ⟨some 53, none, .fieldAddr (.slot 52) 4⟩,
       ⟨some 54, none, .load (.slot 53) false 1 false⟩,
       ⟨some 55, none, .build [.d (.v (.int .i64 0)), .d (.v (.int .i64 0)), .d (.v (.int .i64 0)), .d (.v (.int .i64 0)), .d (.v (.int .i64 0)), .d (.v (.int .u32 0)), .d (.v (.int .i64 0)), .d (.v (.int .u32 0)), .d (.v (.bool false))] [(4, (1, .slot 54))]⟩,
       ⟨some 56, none, .nilCheck (.slot 49)⟩,
       ⟨some 57, none, .fieldAddr (.slot 56) 6⟩,
       ⟨none, none, .store (.slot 57) (.slot 55) 9⟩])))))

theorem F48 : Fn Try.prog 48 Try.f48 58 [] [] c48 where
  hm := by kernel_rfl
  hf := Try.func48
  hb := by kernel_rfl
  hc := by kernel_rfl
  hts := by kernel_rfl
  hnd := by decide
  hn := Nat.le_of_eq (by kernel_rfl)

def c51 : VC :=
  (.seq
   (.region [⟨some 3, none, .box 7 19 (.slot 1)⟩])
   (.draw [(5, 6)] [⟨some 4, none, .move (.slot 0) false⟩,
    ⟨some 5, none, .move (.slot 0) false⟩,
    ⟨some 6, none, .nilCheck (.slot 5)⟩,
    ⟨some 7, none, .fieldAddr (.slot 6) 15⟩,
    ⟨some 8, none, .fieldAddr (.slot 7) 0⟩,
    ⟨some 9, none, .load (.slot 8) false 1 true⟩,
    ⟨some 10, none, .load (.slot 3) true 19 false⟩,
    ⟨some 11, none, .buildSlice 59 19 1 [.v (.int .i64 0), .v (.int .u32 0), .v (.int .i64 0), .v (.int .u32 0), .v (.bool false), .sl [], .v (.int .i64 0), .v (.int .i64 0), .sl [], .v (.int .u32 0), .v (.int .u32 0), .v (.int .u32 0), .v (.int .u32 0), .v (.int .u32 0), .sl [], .sl [], .v (.int .i64 0), .v (.int .i64 0), .sl []] [(0, .slot 10)]⟩,
    ⟨some 12, none, .append false 59 19 208 (.slot 9) (.slot 11)⟩,
    ⟨some 13, none, .nilCheck (.slot 4)⟩,
    ⟨some 14, none, .fieldAddr (.slot 13) 15⟩,
    ⟨some 15, none, .fieldAddr (.slot 14) 0⟩,
    ⟨none, none, .store (.slot 15) (.slot 12) 1⟩]))

theorem F51 : Fn Try.prog 51 Try.f51 16 [9] [] c51 where
  hm := by kernel_rfl
  hf := Try.func51
  hb := by kernel_rfl
  hc := by kernel_rfl
  hts := by kernel_rfl
  hnd := by decide
  hn := Nat.le_of_eq (by kernel_rfl)

def c52 : VC :=
  (.seq
   (.region [⟨some 1, none, .box 3 6 (.slot 0)⟩,
    ⟨some 2, none, .alloc 5 [.d (.v (.int .i64 0)), .d (.v (.int .u32 0)), .d (.v (.int .i64 0)), .d (.v (.int .u32 0)), .d (.v (.bool false)), .nilsl, .d (.v (.int .i64 0)), .d (.v (.int .i64 0)), .nilsl, .d (.v (.int .u32 0)), .d (.v (.int .u32 0)), .d (.v (.int .u32 0)), .d (.v (.int .u32 0)), .d (.v (.int .u32 0)), .nilsl, .nilsl, .d (.v (.int .i64 0)), .d (.v (.int .i64 0)), .nilsl]⟩])
   (.seq
    (.region [⟨some 3, none, .fieldAddr (.slot 1) 0⟩,
     ⟨some 4, none, .load (.slot 3) false 1 false⟩,
     ⟨some 5, none, .fieldAddr (.slot 1) 3⟩,
     ⟨some 6, none, .load (.slot 5) false 1 false⟩,
     ⟨some 7, none, .fieldAddr (.slot 1) 1⟩,
     ⟨some 8, none, .load (.slot 7) false 1 false⟩,
     ⟨some 9, none, .build [.d (.v (.int .u32 0)), .d (.v (.int .i64 0)), .d (.v (.int .u32 0)), .d (.v (.bool false))] [(0, (1, .slot 4)), (1, (1, .slot 6)), (2, (1, .slot 8)), (3, (1, .lit (.c (.d (.v (.bool true))))))]⟩,
     ⟨some 10, none, .build [.d (.v (.int .i64 0)), .d (.v (.int .u32 0)), .d (.v (.int .i64 0)), .d (.v (.int .u32 0)), .d (.v (.bool false)), .nilsl, .d (.v (.int .i64 0)), .d (.v (.int .i64 0)), .nilsl, .d (.v (.int .u32 0)), .d (.v (.int .u32 0)), .d (.v (.int .u32 0)), .d (.v (.int .u32 0)), .d (.v (.int .u32 0)), .nilsl, .nilsl, .d (.v (.int .i64 0)), .d (.v (.int .i64 0)), .nilsl] [(0, (1, .lit (.c (.d (.v (.int .i64 1)))))), (1, (4, .slot 9))]⟩,
     ⟨none, none, .store (.slot 2) (.slot 10) 19⟩])
    .ret))

theorem F52 : Fn Try.prog 52 Try.f52 11 [] [.cell 2 true 19] c52 where
  hm := by kernel_rfl
  hf := Try.func52
  hb := by kernel_rfl
  hc := by kernel_rfl
  hts := by kernel_rfl
  hnd := by decide
  hn := Nat.le_of_eq (by kernel_rfl)

def c54 : VC :=
  (.region [⟨some 2, none, .move (.slot 0) false⟩,
   ⟨some 3, none, .build [.d (.v (.int .i64 0)), .d (.v (.int .u32 0)), .d (.v (.int .i64 0)), .d (.v (.int .u32 0)), .d (.v (.bool false)), .nilsl, .d (.v (.int .i64 0)), .d (.v (.int .i64 0)), .nilsl, .d (.v (.int .u32 0)), .d (.v (.int .u32 0)), .d (.v (.int .u32 0)), .d (.v (.int .u32 0)), .d (.v (.int .u32 0)), .nilsl, .nilsl, .d (.v (.int .i64 0)), .d (.v (.int .i64 0)), .nilsl] [(0, (1, .lit (.c (.d (.v (.int .i64 4))))))]⟩,
   ⟨some 4, none, .call 51 [.slot 2, .slot 3]⟩])

theorem F54 : Fn Try.prog 54 Try.f54 5 [] [] c54 where
  hm := by kernel_rfl
  hf := Try.func54
  hb := by kernel_rfl
  hc := by kernel_rfl
  hts := by kernel_rfl
  hnd := by decide
  hn := Nat.le_of_eq (by kernel_rfl)

def c55 : VC :=
  (.seq
   (.region [⟨some 2, none, .move (.lit (.c (.d (.v (.int .i64 0))))) true⟩])
   (.seq
    (.seq
     (.region [⟨some 3, none, .move (.slot 0) false⟩,
      ⟨some 4, none, .bin false .lss (.slot 3) (.lit (.c (.d (.v (.int .i64 3)))))⟩])
     (.cond (.slot 4)
      (.seq
       (.region [⟨some 2, none, .move (.lit (.c (.d (.v (.int .i64 0))))) true⟩])
       .ret)
      .skip))
    (.seq
     (.region [⟨some 5, none, .move (.slot 0) false⟩,
      ⟨some 6, none, .bin false .quo (.slot 5) (.lit (.c (.d (.v (.int .i64 3)))))⟩,
      ⟨some 2, none, .move (.slot 6) true⟩])
     .ret)))

theorem F55 : Fn Try.prog 55 Try.f55 7 [] [.t 2] c55 where
  hm := by kernel_rfl
  hf := Try.func55
  hb := by kernel_rfl
  hc := by kernel_rfl
  hts := by kernel_rfl
  hnd := by decide
  hn := Nat.le_of_eq (by kernel_rfl)

def c56 : VC :=
  (.seq
   (.region [⟨some 3, none, .box 7 4 (.slot 1)⟩])
   (.seq
    (.seq
     (.region [⟨some 6, none, .move (.slot 0) false⟩,
      ⟨some 7, none, .nilCheck (.slot 6)⟩,
      ⟨some 8, none, .fieldAddr (.slot 7) 6⟩,
      ⟨some 9, none, .fieldAddr (.slot 8) 0⟩,
      ⟨some 10, none, .load (.slot 9) false 1 false⟩,
      ⟨some 11, none, .bin false .neq (.slot 10) (.lit (.c (.d (.v (.int .i64 3)))))⟩])
     (.cond (.slot 11)
      (.seq
       (.region [⟨some 12, none, .move (.slot 0) false⟩,
        ⟨some 13, none, .call 57 [.slot 12]⟩])
       .ret)
      .skip))
    (.seq
     (.seq
      (.draw [(0, 12), (5, 12), (10, 12), (11, 12)] [⟨some 14, none, .load (.slot 3) true 4 false⟩,
       ⟨some 15, none, .move (.slot 0) false⟩,
       ⟨some 16, none, .nilCheck (.slot 15)⟩,
       ⟨some 17, none, .fieldAddr (.slot 16) 0⟩,
       ⟨some 18, none, .fieldAddr (.slot 17) 2⟩,
       ⟨some 19, none, .load (.slot 18) false 1 false⟩,
       ⟨some 20, none, .move (.slot 0) false⟩,
       ⟨some 21, none, .nilCheck (.slot 20)⟩,
       ⟨some 22, none, .fieldAddr (.slot 21) 0⟩,
       ⟨some 23, none, .fieldAddr (.slot 22) 1⟩,
       ⟨some 24, none, .load (.slot 23) false 1 false⟩,
       ⟨some 25, none, .call 60 [.slot 14, .slot 19, .slot 24]⟩,
       ⟨some 4, none, .alloc 9 [.d (.v (.int .i64 0)), .d (.v (.int .i64 0)), .nilsl]⟩,
       ⟨none, none, .store (.slot 4) (.slot 25) 3⟩])
      (.seq
       (.region [⟨some 26, none, .fieldAddr (.slot 4) 0⟩,
        ⟨some 27, none, .load (.slot 26) false 1 false⟩,
        ⟨some 28, none, .bin false .neq (.slot 27) (.lit (.c (.d (.v (.int .i64 0)))))⟩])
       (.cond (.slot 28)
        (.seq
         (.region [⟨some 29, none, .move (.slot 0) false⟩,
          ⟨some 30, none, .load (.slot 4) true 3 false⟩,
          ⟨some 31, none, .call 48 [.slot 29, .slot 30]⟩])
         .ret)
        .skip)))
     (.seq
      (.draw [] [⟨some 32, none, .move (.slot 0) false⟩,
       ⟨some 33, none, .nilCheck (.slot 32)⟩,
       ⟨some 34, none, .fieldAddr (.slot 33) 0⟩,
       ⟨some 35, none, .fieldAddr (.slot 34) 3⟩,
       ⟨some 36, none, .load (.slot 35) false 1 false⟩,
       ⟨some 37, none, .fieldAddr (.slot 3) 1⟩,
       ⟨some 38, none, .load (.slot 37) false 1 false⟩,
       ⟨some 39, none, .call 61 [.slot 36, .slot 38]⟩,
       ⟨some 5, none, .move (.slot 39) true⟩])
      (.seq
       (.draw [(4, 5)] [⟨some 40, none, .move (.slot 0) false⟩,
        ⟨some 41, none, .move (.slot 5) false⟩,
        ⟨some 42, none, .move (.slot 5) false⟩,
        ⟨some 43, none, .move (.slot 5) false⟩,
        ⟨some 44, none, .call 55 [.slot 43]⟩,
        ⟨some 45, none, .load (.slot 3) true 4 false⟩,
        ⟨some 46, none, .build [.d (.v (.int .i64 0)), .d (.v (.int .i64 0)), .d (.v (.int .i64 0)), .d (.v (.int .i64 0)), .d (.v (.int .i64 0)), .d (.v (.int .u32 0)), .d (.v (.int .i64 0)), .d (.v (.int .u32 0)), .d (.v (.bool false))] [(0, (1, .lit (.c (.d (.v (.int .i64 4)))))), (1, (1, .slot 41)), (2, (1, .slot 42)), (3, (1, .slot 44)), (5, (4, .slot 45))]⟩,
        ⟨some 47, none, .nilCheck (.slot 40)⟩,
        ⟨some 48, none, .fieldAddr (.slot 47) 6⟩,
        ⟨none, none, .store (.slot 48) (.slot 46) 9⟩])
       (.region [⟨some 49, none, .move (.slot 0) false⟩,
        ⟨some 50, none, .call 54 [.slot 49]⟩]))))))

theorem F56 : Fn Try.prog 56 Try.f56 51 [] [] c56 where
  hm := by kernel_rfl
  hf := Try.func56
  hb := by kernel_rfl
  hc := by kernel_rfl
  hts := by kernel_rfl
  hnd := by decide
  hn := Nat.le_of_eq (by kernel_rfl)

def c59 : VC :=
  (.seq
   (.region [⟨some 2, none, .move (.lit (.c .nilsl)) true⟩])
   (.seq
    (.seq
     (.nilq [⟨some 3, none, .move (.slot 0) false⟩] 4 false (.slot 3))
     (.cond (.slot 4)
      (.seq
       (.region [⟨some 2, none, .move (.lit (.c .nilsl)) true⟩])
       .ret)
      .skip))
    (.seq
     (.region [⟨some 5, none, .buildSlice 5 1 0 [.v (.int .u8 0)] []⟩,
      ⟨some 6, none, .move (.slot 0) false⟩,
      ⟨some 7, none, .append false 5 1 1 (.slot 5) (.slot 6)⟩,
      ⟨some 2, none, .move (.slot 7) true⟩])
     .ret)))

theorem F59 : Fn Try.prog 59 Try.f59 8 [] [.t 2] c59 where
  hm := by kernel_rfl
  hf := Try.func59
  hb := by kernel_rfl
  hc := by kernel_rfl
  hts := by kernel_rfl
  hnd := by decide
  hn := Nat.le_of_eq (by kernel_rfl)

def c60 : VC :=
  (.seq
   (.region [⟨some 3, none, .box 7 4 (.slot 0)⟩,
    ⟨some 6, none, .alloc 13 [.d (.v (.int .i64 0)), .d (.v (.int .i64 0)), .nilsl]⟩])
   (.seq
    (.block 0
     (.seq
      (.region [⟨some 8, none, .fieldAddr (.slot 3) 0⟩,
       ⟨some 9, none, .load (.slot 8) false 1 false⟩,
       ⟨some 10, none, .move (.slot 1) false⟩,
       ⟨some 11, none, .bin false .neq (.slot 9) (.slot 10)⟩,
       ⟨some 7, none, .move (.slot 11) true⟩])
      (.cond (.slot 7)
       (.seq
        (.region [⟨some 12, none, .call 62 [.lit (.c (.d (.v (.int .i64 2)))), .lit (.c .nilsl)]⟩,
         ⟨none, none, .store (.slot 6) (.slot 12) 3⟩])
        .ret)
       (.seq
        (.region [⟨some 14, none, .fieldAddr (.slot 3) 2⟩,
         ⟨some 15, none, .load (.slot 14) false 1 false⟩,
         ⟨some 16, none, .move (.slot 2) false⟩,
         ⟨some 17, none, .bin false .eql (.slot 15) (.slot 16)⟩,
         ⟨some 13, none, .move (.slot 17) true⟩])
        (.cond (.slot 13)
         (.seq
          (.region [⟨some 18, none, .call 62 [.lit (.c (.d (.v (.int .i64 3)))), .lit (.c .nilsl)]⟩,
           ⟨none, none, .store (.slot 6) (.slot 18) 3⟩])
          .ret)
         (.seq
          (.region [⟨some 20, none, .fieldAddr (.slot 3) 3⟩,
           ⟨some 21, none, .load (.slot 20) false 1 false⟩,
           ⟨some 22, none, .un .not (.slot 21)⟩,
           ⟨some 19, none, .move (.slot 22) true⟩])
          (.cond (.slot 19)
           (.seq
            (.region [⟨some 23, none, .build [.nilsl] []⟩,
             ⟨some 24, none, .box 49 1 (.slot 23)⟩,
             ⟨some 25, none, .call 63 [.slot 24, .lit (.c (.d (.v (.int .i64 65))))]⟩,
             ⟨some 26, none, .call 63 [.slot 25, .lit (.c (.d (.v (.int .i64 4))))]⟩,
             ⟨some 27, none, .move (.slot 1) false⟩,
             ⟨some 28, none, .call 64 [.slot 26, .slot 27]⟩,
             ⟨some 29, none, .call 65 [.slot 28]⟩,
             ⟨some 30, none, .call 62 [.lit (.c (.d (.v (.int .i64 7)))), .slot 29]⟩,
             ⟨none, none, .store (.slot 6) (.slot 30) 3⟩])
            .ret)
           .skip)))))))
    (.seq
     (.region [⟨some 31, none, .build [.d (.v (.int .i64 0)), .d (.v (.int .i64 0)), .nilsl] []⟩,
      ⟨none, none, .store (.slot 6) (.slot 31) 3⟩])
     .ret)))

theorem F60 : Fn Try.prog 60 Try.f60 32 [] [.cell 6 true 3] c60 where
  hm := by kernel_rfl
  hf := Try.func60
  hb := by kernel_rfl
  hc := by kernel_rfl
  hts := by kernel_rfl
  hnd := by decide
  hn := Nat.le_of_eq (by kernel_rfl)

def c61 : VC :=
  (.seq
   (.region [⟨some 4, none, .move (.lit (.c (.d (.v (.int .i64 0))))) true⟩])
   (.seq
    (.region [⟨some 5, none, .move (.slot 0) false⟩,
     ⟨some 6, none, .move (.slot 1) false⟩,
     ⟨some 7, none, .mm false (.slot 5) (.slot 6)⟩,
     ⟨some 8, none, .mm true (.slot 7) (.lit (.c (.d (.v (.int .i64 0)))))⟩,
     ⟨some 4, none, .move (.slot 8) true⟩])
    .ret))

theorem F61 : Fn Try.prog 61 Try.f61 9 [] [.t 4] c61 where
  hm := by kernel_rfl
  hf := Try.func61
  hb := by kernel_rfl
  hc := by kernel_rfl
  hts := by kernel_rfl
  hnd := by decide
  hn := Nat.le_of_eq (by kernel_rfl)

def c62 : VC :=
  (.seq
   (.region [⟨some 4, none, .alloc 9 [.d (.v (.int .i64 0)), .d (.v (.int .i64 0)), .nilsl]⟩])
   (.seq
    (.region [⟨some 5, none, .move (.slot 0) false⟩,
     ⟨some 6, none, .move (.slot 1) false⟩,
     ⟨some 7, none, .build [.d (.v (.int .i64 0)), .d (.v (.int .i64 0)), .nilsl] [(0, (1, .lit (.c (.d (.v (.int .i64 2)))))), (1, (1, .slot 5)), (2, (1, .slot 6))]⟩,
     ⟨none, none, .store (.slot 4) (.slot 7) 3⟩])
    .ret))

theorem F62 : Fn Try.prog 62 Try.f62 8 [] [.cell 4 true 3] c62 where
  hm := by kernel_rfl
  hf := Try.func62
  hb := by kernel_rfl
  hc := by kernel_rfl
  hts := by kernel_rfl
  hnd := by decide
  hn := Nat.le_of_eq (by kernel_rfl)

def c63 : VC :=
  (.seq
   (.region [⟨some 4, none, .move (.lit (.c (.d (.v (.pointer none))))) true⟩])
   (.seq
    (.region [⟨some 5, none, .move (.slot 0) false⟩,
     ⟨some 6, none, .move (.slot 1) false⟩,
     ⟨some 7, none, .conv .u8 (.slot 6)⟩,
     ⟨some 8, none, .buildSlice 5 1 1 [.v (.int .u8 0)] [(0, .slot 7)]⟩,
     ⟨some 9, none, .call 66 [.slot 5, .slot 8]⟩,
     ⟨some 4, none, .move (.slot 9) true⟩])
    .ret))

theorem F63 : Fn Try.prog 63 Try.f63 10 [] [.t 4] c63 where
  hm := by kernel_rfl
  hf := Try.func63
  hb := by kernel_rfl
  hc := by kernel_rfl
  hts := by kernel_rfl
  hnd := by decide
  hn := Nat.le_of_eq (by kernel_rfl)

def c64 : VC :=
  (.seq
   (.region [⟨some 4, none, .move (.lit (.c (.d (.v (.pointer none))))) true⟩])
   (.seq
    (.region [⟨some 5, none, .move (.slot 0) false⟩,
     ⟨some 6, none, .move (.slot 1) false⟩,
     ⟨some 7, none, .bin false .shr (.slot 6) (.lit (.c (.d (.v (.int .u64 24)))))⟩,
     ⟨some 8, none, .conv .u8 (.slot 7)⟩,
     ⟨some 9, none, .move (.slot 1) false⟩,
     ⟨some 10, none, .bin false .shr (.slot 9) (.lit (.c (.d (.v (.int .u64 16)))))⟩,
     ⟨some 11, none, .conv .u8 (.slot 10)⟩,
     ⟨some 12, none, .move (.slot 1) false⟩,
     ⟨some 13, none, .bin false .shr (.slot 12) (.lit (.c (.d (.v (.int .u64 8)))))⟩,
     ⟨some 14, none, .conv .u8 (.slot 13)⟩,
     ⟨some 15, none, .move (.slot 1) false⟩,
     ⟨some 16, none, .conv .u8 (.slot 15)⟩,
     ⟨some 17, none, .buildSlice 5 1 4 [.v (.int .u8 0)] [(0, .slot 8), (1, .slot 11), (2, .slot 14), (3, .slot 16)]⟩,
     ⟨some 18, none, .call 66 [.slot 5, .slot 17]⟩,
     ⟨some 4, none, .move (.slot 18) true⟩])
    .ret))

theorem F64 : Fn Try.prog 64 Try.f64 19 [] [.t 4] c64 where
  hm := by kernel_rfl
  hf := Try.func64
  hb := by kernel_rfl
  hc := by kernel_rfl
  hts := by kernel_rfl
  hnd := by decide
  hn := Nat.le_of_eq (by kernel_rfl)

def c65 : VC :=
  (.seq
   (.region [⟨some 2, none, .move (.lit (.c .nilsl)) true⟩])
   (.seq
    (.seq
     (.region [⟨some 3, none, .move (.slot 0) false⟩,
      ⟨some 4, none, .isNil false (.slot 3)⟩])
     (.cond (.slot 4)
      (.seq
       (.region [⟨some 2, none, .move (.lit (.c .nilsl)) true⟩])
       .ret)
      .skip))
    (.seq
     (.region [⟨some 5, none, .move (.slot 0) false⟩,
      ⟨some 6, none, .nilCheck (.slot 5)⟩,
      ⟨some 7, none, .fieldAddr (.slot 6) 0⟩,
      ⟨some 8, none, .load (.slot 7) false 1 false⟩,
      ⟨some 9, none, .call 67 [.slot 8]⟩,
      ⟨some 2, none, .move (.slot 9) true⟩])
     .ret)))

theorem F65 : Fn Try.prog 65 Try.f65 10 [] [.t 2] c65 where
  hm := by kernel_rfl
  hf := Try.func65
  hb := by kernel_rfl
  hc := by kernel_rfl
  hts := by kernel_rfl
  hnd := by decide
  hn := Nat.le_of_eq (by kernel_rfl)

def c66 : VC :=
  (.seq
   (.region [⟨some 4, none, .move (.lit (.c (.d (.v (.pointer none))))) true⟩])
   (.seq
    (.seq
     (.region [⟨some 5, none, .move (.slot 0) false⟩,
      ⟨some 6, none, .isNil true (.slot 5)⟩])
     (.cond (.slot 6)
      (.region [⟨some 7, none, .move (.slot 0) false⟩,
       ⟨some 8, none, .move (.slot 0) false⟩,
       ⟨some 9, none, .nilCheck (.slot 8)⟩,
       ⟨some 10, none, .fieldAddr (.slot 9) 0⟩,
       ⟨some 11, none, .load (.slot 10) false 1 true⟩,
       ⟨some 12, none, .move (.slot 1) false⟩,
       ⟨some 13, none, .append false 5 1 1 (.slot 11) (.slot 12)⟩,
       ⟨some 14, none, .nilCheck (.slot 7)⟩,
       ⟨some 15, none, .fieldAddr (.slot 14) 0⟩,
       ⟨none, none, .store (.slot 15) (.slot 13) 1⟩])
      .skip))
    (.seq
     (.region [⟨some 16, none, .move (.slot 0) false⟩,
      ⟨some 4, none, .move (.slot 16) true⟩])
     .ret)))

theorem F66 : Fn Try.prog 66 Try.f66 17 [11] [.t 4] c66 where
  hm := by kernel_rfl
  hf := Try.func66
  hb := by kernel_rfl
  hc := by kernel_rfl
  hts := by kernel_rfl
  hnd := by decide
  hn := Nat.le_of_eq (by kernel_rfl)

def c67 : VC :=
  (.seq
   (.region [⟨some 2, none, .move (.lit (.c .nilsl)) true⟩])
   (.seq
    (.seq
     (.nilq [⟨some 3, none, .move (.slot 0) false⟩] 4 false (.slot 3))
     (.cond (.slot 4)
      (.seq
       (.region [⟨some 2, none, .move (.lit (.c .nilsl)) true⟩])
       .ret)
      .skip))
    (.seq
     (.region [⟨some 5, none, .buildSlice 5 1 0 [.v (.int .u8 0)] []⟩,
      ⟨some 6, none, .move (.slot 0) false⟩,
      ⟨some 7, none, .append false 5 1 1 (.slot 5) (.slot 6)⟩,
      ⟨some 2, none, .move (.slot 7) true⟩])
     .ret)))

theorem F67 : Fn Try.prog 67 Try.f67 8 [] [.t 2] c67 where
  hm := by kernel_rfl
  hf := Try.func67
  hb := by kernel_rfl
  hc := by kernel_rfl
  hts := by kernel_rfl
  hnd := by decide
  hn := Nat.le_of_eq (by kernel_rfl)

end Go.V

