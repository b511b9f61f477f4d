/- The ties of the lowered functions to the program. -/
import Derived.Test.YtnblehjhpjfilaaGreatDoorB2
import Derived.Test.YtnblehjhpjfilaaGreatDoorProg
import Derived.KernelRfl
set_option linter.all false
set_option linter.unusedSimpArgs false
set_option linter.unusedVariables false
set_option linter.unnecessarySimpa false
set_option linter.deprecated false
/-
  THE SEAT'S TABLES and the checks of its functions (printed by AeGen).
-/
namespace Go.Proofs.YtnblehjhpjfilaaGreatDoor.Ae
open Go Go.AE Go.AE.Fns
set_option maxRecDepth 100000
def seat : SeatT where
  id := (.n 169 54 (.n 89 184 (.n 53 92 (.n 33 197 (.n 23 51 (.n 15 74 (.n 10 47 (.n 4 46 .l .l) (.n 11 73 .l .l)) (.n 20 114 (.n 18 70 .l .l) (.n 22 18 .l .l))) (.n 30 91 (.n 28 72 (.n 25 16 .l .l) (.n 29 115 .l .l)) (.n 32 75 (.n 31 71 .l .l) .l))) (.n 42 130 (.n 39 78 (.n 35 76 (.n 34 192 .l .l) (.n 38 116 .l .l)) (.n 41 160 (.n 40 48 .l .l) .l)) (.n 46 129 (.n 44 128 (.n 43 126 .l .l) (.n 45 124 .l .l)) (.n 51 7 (.n 47 19 .l .l) .l)))) (.n 67 182 (.n 60 163 (.n 57 77 (.n 55 201 (.n 54 185 .l .l) (.n 56 15 .l .l)) (.n 59 186 (.n 58 183 .l .l) .l)) (.n 64 40 (.n 62 52 (.n 61 49 .l .l) (.n 63 190 .l .l)) (.n 66 173 (.n 65 80 .l .l) .l))) (.n 77 81 (.n 72 125 (.n 70 189 (.n 68 127 .l .l) (.n 71 82 .l .l)) (.n 76 132 (.n 75 122 .l .l) .l)) (.n 84 10 (.n 82 118 (.n 78 139 .l .l) (.n 83 123 .l .l)) (.n 88 4 (.n 87 3 .l .l) .l))))) (.n 131 11 (.n 106 17 (.n 98 180 (.n 94 20 (.n 92 181 (.n 90 151 .l .l) (.n 93 187 .l .l)) (.n 96 152 (.n 95 149 .l .l) (.n 97 176 .l .l))) (.n 102 44 (.n 100 202 (.n 99 53 .l .l) (.n 101 45 .l .l)) (.n 104 43 (.n 103 41 .l .l) .l))) (.n 118 135 (.n 110 196 (.n 108 154 (.n 107 148 .l .l) (.n 109 84 .l .l)) (.n 117 198 (.n 111 83 .l .l) .l)) (.n 122 131 (.n 120 194 (.n 119 119 .l .l) (.n 121 21 .l .l)) (.n 130 121 (.n 125 6 .l .l) .l)))) (.n 146 216 (.n 138 150 (.n 135 5 (.n 133 120 (.n 132 193 .l .l) (.n 134 50 .l .l)) (.n 137 8 (.n 136 12 .l .l) .l)) (.n 143 143 (.n 141 140 (.n 140 212 .l .l) (.n 142 153 .l .l)) (.n 145 215 (.n 144 188 .l .l) .l))) (.n 160 136 (.n 151 195 (.n 149 42 (.n 148 158 .l .l) (.n 150 141 .l .l)) (.n 159 199 (.n 158 200 .l .l) .l)) (.n 164 23 (.n 162 133 (.n 161 134 .l .l) (.n 163 27 .l .l)) (.n 166 142 (.n 165 117 .l .l) .l)))))) (.n 287 86 (.n 232 60 (.n 204 214 (.n 187 137 (.n 181 171 (.n 175 191 (.n 170 9 .l .l) (.n 176 204 .l .l)) (.n 185 213 (.n 184 203 .l .l) (.n 186 210 .l .l))) (.n 192 56 (.n 189 28 (.n 188 29 .l .l) (.n 190 22 .l .l)) (.n 203 211 (.n 193 79 .l .l) .l))) (.n 216 62 (.n 210 26 (.n 208 207 (.n 206 138 .l .l) (.n 209 25 .l .l)) (.n 215 61 (.n 211 30 .l .l) .l)) (.n 226 209 (.n 224 14 (.n 223 13 .l .l) (.n 225 208 .l .l)) (.n 231 175 (.n 230 55 .l .l) .l)))) (.n 259 93 (.n 248 145 (.n 236 217 (.n 234 157 (.n 233 39 .l .l) (.n 235 32 .l .l)) (.n 238 63 (.n 237 159 .l .l) .l)) (.n 253 147 (.n 250 146 (.n 249 206 .l .l) (.n 251 144 .l .l)) (.n 258 85 (.n 254 205 .l .l) .l))) (.n 267 35 (.n 264 34 (.n 261 57 (.n 260 65 .l .l) (.n 263 33 .l .l)) (.n 266 36 (.n 265 31 .l .l) .l)) (.n 272 172 (.n 269 58 (.n 268 170 .l .l) (.n 270 38 .l .l)) (.n 286 102 (.n 285 107 .l .l) .l))))) (.n 329 112 (.n 301 224 (.n 294 222 (.n 291 219 (.n 289 101 (.n 288 87 .l .l) (.n 290 104 .l .l)) (.n 293 106 (.n 292 220 .l .l) .l)) (.n 298 88 (.n 296 108 (.n 295 221 .l .l) (.n 297 103 .l .l)) (.n 300 223 (.n 299 105 .l .l) .l))) (.n 310 162 (.n 305 68 (.n 303 155 (.n 302 97 .l .l) (.n 304 64 .l .l)) (.n 309 66 (.n 306 67 .l .l) .l)) (.n 315 59 (.n 312 37 (.n 311 89 .l .l) (.n 314 156 .l .l)) (.n 317 94 (.n 316 161 .l .l) .l)))) (.n 350 99 (.n 336 2 (.n 333 110 (.n 331 111 (.n 330 109 .l .l) (.n 332 113 .l .l)) (.n 335 98 (.n 334 167 .l .l) .l)) (.n 345 95 (.n 339 218 (.n 338 177 .l .l) (.n 344 164 .l .l)) (.n 349 174 (.n 348 168 .l .l) .l))) (.n 367 169 (.n 361 179 (.n 358 1 (.n 357 69 .l .l) (.n 359 90 .l .l)) (.n 365 225 (.n 364 165 .l .l) .l)) (.n 373 178 (.n 370 96 (.n 368 100 .l .l) (.n 371 166 .l .l)) (.n 407 24 (.n 377 226 .l .l) .l)))))))
  fid := (.n 114 20 (.n 57 261 (.n 29 188 (.n 15 56 (.n 8 137 (.n 4 88 (.n 2 336 (.n 1 358 .l .l) (.n 3 87 .l .l)) (.n 6 125 (.n 5 135 .l .l) (.n 7 51 .l .l))) (.n 12 136 (.n 10 84 (.n 9 170 .l .l) (.n 11 131 .l .l)) (.n 14 224 (.n 13 223 .l .l) .l))) (.n 22 190 (.n 19 47 (.n 17 106 (.n 16 25 .l .l) (.n 18 22 .l .l)) (.n 21 121 (.n 20 94 .l .l) .l)) (.n 26 210 (.n 24 407 (.n 23 164 .l .l) (.n 25 209 .l .l)) (.n 28 189 (.n 27 163 .l .l) .l)))) (.n 43 104 (.n 36 266 (.n 33 263 (.n 31 265 (.n 30 211 .l .l) (.n 32 235 .l .l)) (.n 35 267 (.n 34 264 .l .l) .l)) (.n 40 64 (.n 38 270 (.n 37 312 .l .l) (.n 39 233 .l .l)) (.n 42 149 (.n 41 103 .l .l) .l))) (.n 50 134 (.n 47 10 (.n 45 101 (.n 44 102 .l .l) (.n 46 4 .l .l)) (.n 49 61 (.n 48 40 .l .l) .l)) (.n 54 169 (.n 52 62 (.n 51 23 .l .l) (.n 53 99 .l .l)) (.n 56 192 (.n 55 230 .l .l) .l))))) (.n 86 287 (.n 72 28 (.n 65 260 (.n 61 215 (.n 59 315 (.n 58 269 .l .l) (.n 60 232 .l .l)) (.n 63 238 (.n 62 216 .l .l) (.n 64 304 .l .l))) (.n 69 357 (.n 67 306 (.n 66 309 .l .l) (.n 68 305 .l .l)) (.n 71 31 (.n 70 18 .l .l) .l))) (.n 79 193 (.n 76 35 (.n 74 15 (.n 73 11 .l .l) (.n 75 32 .l .l)) (.n 78 39 (.n 77 57 .l .l) .l)) (.n 83 111 (.n 81 77 (.n 80 65 .l .l) (.n 82 71 .l .l)) (.n 85 258 (.n 84 109 .l .l) .l)))) (.n 100 368 (.n 93 259 (.n 90 359 (.n 88 298 (.n 87 288 .l .l) (.n 89 311 .l .l)) (.n 92 53 (.n 91 30 .l .l) .l)) (.n 97 302 (.n 95 345 (.n 94 317 .l .l) (.n 96 370 .l .l)) (.n 99 350 (.n 98 335 .l .l) .l))) (.n 107 285 (.n 104 290 (.n 102 286 (.n 101 289 .l .l) (.n 103 297 .l .l)) (.n 106 293 (.n 105 299 .l .l) .l)) (.n 111 331 (.n 109 330 (.n 108 296 .l .l) (.n 110 333 .l .l)) (.n 113 332 (.n 112 329 .l .l) .l)))))) (.n 171 181 (.n 143 143 (.n 129 46 (.n 122 75 (.n 118 82 (.n 116 38 (.n 115 29 .l .l) (.n 117 165 .l .l)) (.n 120 133 (.n 119 119 .l .l) (.n 121 130 .l .l))) (.n 126 43 (.n 124 45 (.n 123 83 .l .l) (.n 125 72 .l .l)) (.n 128 44 (.n 127 68 .l .l) .l))) (.n 136 160 (.n 133 162 (.n 131 122 (.n 130 42 .l .l) (.n 132 76 .l .l)) (.n 135 118 (.n 134 161 .l .l) .l)) (.n 140 141 (.n 138 206 (.n 137 187 .l .l) (.n 139 78 .l .l)) (.n 142 166 (.n 141 150 .l .l) .l)))) (.n 157 234 (.n 150 138 (.n 147 253 (.n 145 248 (.n 144 251 .l .l) (.n 146 250 .l .l)) (.n 149 95 (.n 148 107 .l .l) .l)) (.n 154 108 (.n 152 96 (.n 151 90 .l .l) (.n 153 142 .l .l)) (.n 156 314 (.n 155 303 .l .l) .l))) (.n 164 344 (.n 161 316 (.n 159 237 (.n 158 148 .l .l) (.n 160 41 .l .l)) (.n 163 60 (.n 162 310 .l .l) .l)) (.n 168 348 (.n 166 371 (.n 165 364 .l .l) (.n 167 334 .l .l)) (.n 170 268 (.n 169 367 .l .l) .l))))) (.n 199 159 (.n 185 54 (.n 178 373 (.n 175 231 (.n 173 66 (.n 172 272 .l .l) (.n 174 349 .l .l)) (.n 177 338 (.n 176 97 .l .l) .l)) (.n 182 67 (.n 180 98 (.n 179 361 .l .l) (.n 181 92 .l .l)) (.n 184 89 (.n 183 58 .l .l) .l))) (.n 192 34 (.n 189 70 (.n 187 93 (.n 186 59 .l .l) (.n 188 144 .l .l)) (.n 191 175 (.n 190 63 .l .l) .l)) (.n 196 110 (.n 194 120 (.n 193 132 .l .l) (.n 195 151 .l .l)) (.n 198 117 (.n 197 33 .l .l) .l)))) (.n 213 185 (.n 206 249 (.n 203 184 (.n 201 55 (.n 200 158 .l .l) (.n 202 100 .l .l)) (.n 205 254 (.n 204 176 .l .l) .l)) (.n 210 186 (.n 208 225 (.n 207 208 .l .l) (.n 209 226 .l .l)) (.n 212 140 (.n 211 203 .l .l) .l))) (.n 220 292 (.n 217 236 (.n 215 145 (.n 214 204 .l .l) (.n 216 146 .l .l)) (.n 219 291 (.n 218 339 .l .l) .l)) (.n 224 301 (.n 222 294 (.n 221 295 .l .l) (.n 223 300 .l .l)) (.n 226 377 (.n 225 365 .l .l) .l)))))))
  tag := (.n 255 3 (.n 253 2 (.n 9 1 .l .l) .l) (.n 262 5 (.n 258 4 .l .l) .l))
  untag := (.n 3 255 (.n 2 253 (.n 1 9 .l .l) .l) (.n 5 262 (.n 4 258 .l .l) .l))
  rows := [("Replace", [(5, 24)])]
  gl := .l
theorem row0 : RowOk Tryz.prog seat.untag seat.fid "Replace" (5, 24) := ⟨262, 407, by kernel_rfl, by kernel_rfl, fun v w => by kernel_rfl⟩
theorem tableOk : TableOk Tryz.prog seat.untag seat.fid seat.rows := ⟨⟨row0, trivial⟩, trivial⟩
theorem idOk : seat.id.All fun f i => seat.fid.get i = some f := back_of (by kernel_rfl)
theorem tagOk : seat.tag.All fun t g => seat.untag.get g = some t := back_of (by kernel_rfl)
theorem u8Ok : u8ok Tryz.prog = true := by kernel_rfl
theorem bOk : bldOk Tryz.prog 56 = true := by kernel_rfl
theorem seatOk : SeatOk Tryz.prog seat 56 := ⟨idOk, tagOk, trivial, tableOk, u8Ok, bOk⟩
noncomputable def ctx : Ctx := ctxOf Tryz.prog seat 56 seatOk
end Go.Proofs.YtnblehjhpjfilaaGreatDoor.Ae
/-
  THE CHECKS of the lowered functions (printed by AeGen).
-/
namespace Go.Proofs.YtnblehjhpjfilaaGreatDoor.Ae
open Go Go.AE Go.AE.Fns
set_option maxRecDepth 100000
theorem c1 : lowFunc Tryz.prog seat.ties Tryz.f358 = some F1 := by kernel_rfl
theorem c2 : lowFunc Tryz.prog seat.ties Tryz.f336 = some F2 := by kernel_rfl
theorem c3 : lowFunc Tryz.prog seat.ties Tryz.f87 = some F3 := by kernel_rfl
theorem c4 : lowFunc Tryz.prog seat.ties Tryz.f88 = some F4 := by kernel_rfl
theorem c5 : lowFunc Tryz.prog seat.ties Tryz.f135 = some F5 := by kernel_rfl
theorem c6 : lowFunc Tryz.prog seat.ties Tryz.f125 = some F6 := by kernel_rfl
theorem c7 : lowFunc Tryz.prog seat.ties Tryz.f51 = some F7 := by kernel_rfl
theorem c8 : lowFunc Tryz.prog seat.ties Tryz.f137 = some F8 := by kernel_rfl
theorem c9 : lowFunc Tryz.prog seat.ties Tryz.f170 = some F9 := by kernel_rfl
theorem c10 : lowFunc Tryz.prog seat.ties Tryz.f84 = some F10 := by kernel_rfl
theorem c11 : lowFunc Tryz.prog seat.ties Tryz.f131 = some F11 := by kernel_rfl
theorem c12 : lowFunc Tryz.prog seat.ties Tryz.f136 = some F12 := by kernel_rfl
theorem c13 : lowFunc Tryz.prog seat.ties Tryz.f223 = some F13 := by kernel_rfl
theorem c14 : lowFunc Tryz.prog seat.ties Tryz.f224 = some F14 := by kernel_rfl
theorem c15 : lowFunc Tryz.prog seat.ties Tryz.f56 = some F15 := by kernel_rfl
theorem c16 : lowFunc Tryz.prog seat.ties Tryz.f25 = some F16 := by kernel_rfl
theorem c17 : lowFunc Tryz.prog seat.ties Tryz.f106 = some F17 := by kernel_rfl
theorem c18 : lowFunc Tryz.prog seat.ties Tryz.f22 = some F18 := by kernel_rfl
theorem c19 : lowFunc Tryz.prog seat.ties Tryz.f47 = some F19 := by kernel_rfl
theorem c20 : lowFunc Tryz.prog seat.ties Tryz.f94 = some F20 := by kernel_rfl
theorem c21 : lowFunc Tryz.prog seat.ties Tryz.f121 = some F21 := by kernel_rfl
theorem c22 : lowFunc Tryz.prog seat.ties Tryz.f190 = some F22 := by kernel_rfl
theorem c23 : lowFunc Tryz.prog seat.ties Tryz.f164 = some F23 := by kernel_rfl
theorem c24 : lowFunc Tryz.prog seat.ties Tryz.f407 = some F24 := by kernel_rfl
theorem c25 : lowFunc Tryz.prog seat.ties Tryz.f209 = some F25 := by kernel_rfl
theorem c26 : lowFunc Tryz.prog seat.ties Tryz.f210 = some F26 := by kernel_rfl
theorem c27 : lowFunc Tryz.prog seat.ties Tryz.f163 = some F27 := by kernel_rfl
theorem c29 : lowFunc Tryz.prog seat.ties Tryz.f188 = some F29 := by kernel_rfl
theorem c30 : lowFunc Tryz.prog seat.ties Tryz.f211 = some F30 := by kernel_rfl
theorem c31 : lowFunc Tryz.prog seat.ties Tryz.f265 = some F31 := by kernel_rfl
theorem c32 : lowFunc Tryz.prog seat.ties Tryz.f235 = some F32 := by kernel_rfl
theorem c33 : lowFunc Tryz.prog seat.ties Tryz.f263 = some F33 := by kernel_rfl
theorem c34 : lowFunc Tryz.prog seat.ties Tryz.f264 = some F34 := by kernel_rfl
theorem c35 : lowFunc Tryz.prog seat.ties Tryz.f267 = some F35 := by kernel_rfl
theorem c36 : lowFunc Tryz.prog seat.ties Tryz.f266 = some F36 := by kernel_rfl
theorem c37 : lowFunc Tryz.prog seat.ties Tryz.f312 = some F37 := by kernel_rfl
theorem c38 : lowFunc Tryz.prog seat.ties Tryz.f270 = some F38 := by kernel_rfl
theorem c39 : lowFunc Tryz.prog seat.ties Tryz.f233 = some F39 := by kernel_rfl
theorem c40 : lowFunc Tryz.prog seat.ties Tryz.f64 = some F40 := by kernel_rfl
theorem c41 : lowFunc Tryz.prog seat.ties Tryz.f103 = some F41 := by kernel_rfl
theorem c42 : lowFunc Tryz.prog seat.ties Tryz.f149 = some F42 := by kernel_rfl
theorem c43 : lowFunc Tryz.prog seat.ties Tryz.f104 = some F43 := by kernel_rfl
theorem c44 : lowFunc Tryz.prog seat.ties Tryz.f102 = some F44 := by kernel_rfl
theorem c45 : lowFunc Tryz.prog seat.ties Tryz.f101 = some F45 := by kernel_rfl
theorem c46 : lowFunc Tryz.prog seat.ties Tryz.f4 = some F46 := by kernel_rfl
theorem c47 : lowFunc Tryz.prog seat.ties Tryz.f10 = some F47 := by kernel_rfl
theorem c48 : lowFunc Tryz.prog seat.ties Tryz.f40 = some F48 := by kernel_rfl
theorem c49 : lowFunc Tryz.prog seat.ties Tryz.f61 = some F49 := by kernel_rfl
theorem c50 : lowFunc Tryz.prog seat.ties Tryz.f134 = some F50 := by kernel_rfl
theorem c51 : lowFunc Tryz.prog seat.ties Tryz.f23 = some F51 := by kernel_rfl
theorem c52 : lowFunc Tryz.prog seat.ties Tryz.f62 = some F52 := by kernel_rfl
theorem c53 : lowFunc Tryz.prog seat.ties Tryz.f99 = some F53 := by kernel_rfl
theorem c54 : lowFunc Tryz.prog seat.ties Tryz.f169 = some F54 := by kernel_rfl
theorem c55 : lowFunc Tryz.prog seat.ties Tryz.f230 = some F55 := by kernel_rfl
theorem c56 : lowFunc Tryz.prog seat.ties Tryz.f192 = some F56 := by kernel_rfl
theorem c57 : lowFunc Tryz.prog seat.ties Tryz.f261 = some F57 := by kernel_rfl
theorem c58 : lowFunc Tryz.prog seat.ties Tryz.f269 = some F58 := by kernel_rfl
theorem c59 : lowFunc Tryz.prog seat.ties Tryz.f315 = some F59 := by kernel_rfl
theorem c60 : lowFunc Tryz.prog seat.ties Tryz.f232 = some F60 := by kernel_rfl
theorem c61 : lowFunc Tryz.prog seat.ties Tryz.f215 = some F61 := by kernel_rfl
theorem c62 : lowFunc Tryz.prog seat.ties Tryz.f216 = some F62 := by kernel_rfl
theorem c63 : lowFunc Tryz.prog seat.ties Tryz.f238 = some F63 := by kernel_rfl
theorem c64 : lowFunc Tryz.prog seat.ties Tryz.f304 = some F64 := by kernel_rfl
theorem c65 : lowFunc Tryz.prog seat.ties Tryz.f260 = some F65 := by kernel_rfl
theorem c66 : lowFunc Tryz.prog seat.ties Tryz.f309 = some F66 := by kernel_rfl
theorem c67 : lowFunc Tryz.prog seat.ties Tryz.f306 = some F67 := by kernel_rfl
theorem c68 : lowFunc Tryz.prog seat.ties Tryz.f305 = some F68 := by kernel_rfl
theorem c69 : lowFunc Tryz.prog seat.ties Tryz.f357 = some F69 := by kernel_rfl
theorem c70 : lowFunc Tryz.prog seat.ties Tryz.f18 = some F70 := by kernel_rfl
theorem c71 : lowFunc Tryz.prog seat.ties Tryz.f31 = some F71 := by kernel_rfl
theorem c72 : lowFunc Tryz.prog seat.ties Tryz.f28 = some F72 := by kernel_rfl
theorem c73 : lowFunc Tryz.prog seat.ties Tryz.f11 = some F73 := by kernel_rfl
theorem c74 : lowFunc Tryz.prog seat.ties Tryz.f15 = some F74 := by kernel_rfl
theorem c75 : lowFunc Tryz.prog seat.ties Tryz.f32 = some F75 := by kernel_rfl
theorem c76 : lowFunc Tryz.prog seat.ties Tryz.f35 = some F76 := by kernel_rfl
theorem c77 : lowFunc Tryz.prog seat.ties Tryz.f57 = some F77 := by kernel_rfl
theorem c78 : lowFunc Tryz.prog seat.ties Tryz.f39 = some F78 := by kernel_rfl
theorem c79 : lowFunc Tryz.prog seat.ties Tryz.f193 = some F79 := by kernel_rfl
theorem c80 : lowFunc Tryz.prog seat.ties Tryz.f65 = some F80 := by kernel_rfl
theorem c81 : lowFunc Tryz.prog seat.ties Tryz.f77 = some F81 := by kernel_rfl
theorem c82 : lowFunc Tryz.prog seat.ties Tryz.f71 = some F82 := by kernel_rfl
theorem c83 : lowFunc Tryz.prog seat.ties Tryz.f111 = some F83 := by kernel_rfl
theorem c84 : lowFunc Tryz.prog seat.ties Tryz.f109 = some F84 := by kernel_rfl
theorem c85 : lowFunc Tryz.prog seat.ties Tryz.f258 = some F85 := by kernel_rfl
theorem c86 : lowFunc Tryz.prog seat.ties Tryz.f287 = some F86 := by kernel_rfl
theorem c87 : lowFunc Tryz.prog seat.ties Tryz.f288 = some F87 := by kernel_rfl
theorem c88 : lowFunc Tryz.prog seat.ties Tryz.f298 = some F88 := by kernel_rfl
theorem c89 : lowFunc Tryz.prog seat.ties Tryz.f311 = some F89 := by kernel_rfl
theorem c90 : lowFunc Tryz.prog seat.ties Tryz.f359 = some F90 := by kernel_rfl
theorem c91 : lowFunc Tryz.prog seat.ties Tryz.f30 = some F91 := by kernel_rfl
theorem c92 : lowFunc Tryz.prog seat.ties Tryz.f53 = some F92 := by kernel_rfl
theorem c93 : lowFunc Tryz.prog seat.ties Tryz.f259 = some F93 := by kernel_rfl
theorem c94 : lowFunc Tryz.prog seat.ties Tryz.f317 = some F94 := by kernel_rfl
theorem c95 : lowFunc Tryz.prog seat.ties Tryz.f345 = some F95 := by kernel_rfl
theorem c96 : lowFunc Tryz.prog seat.ties Tryz.f370 = some F96 := by kernel_rfl
theorem c97 : lowFunc Tryz.prog seat.ties Tryz.f302 = some F97 := by kernel_rfl
theorem c98 : lowFunc Tryz.prog seat.ties Tryz.f335 = some F98 := by kernel_rfl
theorem c99 : lowFunc Tryz.prog seat.ties Tryz.f350 = some F99 := by kernel_rfl
theorem c100 : lowFunc Tryz.prog seat.ties Tryz.f368 = some F100 := by kernel_rfl
theorem c101 : lowFunc Tryz.prog seat.ties Tryz.f289 = some F101 := by kernel_rfl
theorem c102 : lowFunc Tryz.prog seat.ties Tryz.f286 = some F102 := by kernel_rfl
theorem c103 : lowFunc Tryz.prog seat.ties Tryz.f297 = some F103 := by kernel_rfl
theorem c104 : lowFunc Tryz.prog seat.ties Tryz.f290 = some F104 := by kernel_rfl
theorem c105 : lowFunc Tryz.prog seat.ties Tryz.f299 = some F105 := by kernel_rfl
theorem c106 : lowFunc Tryz.prog seat.ties Tryz.f293 = some F106 := by kernel_rfl
theorem c107 : lowFunc Tryz.prog seat.ties Tryz.f285 = some F107 := by kernel_rfl
theorem c108 : lowFunc Tryz.prog seat.ties Tryz.f296 = some F108 := by kernel_rfl
theorem c109 : lowFunc Tryz.prog seat.ties Tryz.f330 = some F109 := by kernel_rfl
theorem c110 : lowFunc Tryz.prog seat.ties Tryz.f333 = some F110 := by kernel_rfl
theorem c111 : lowFunc Tryz.prog seat.ties Tryz.f331 = some F111 := by kernel_rfl
theorem c112 : lowFunc Tryz.prog seat.ties Tryz.f329 = some F112 := by kernel_rfl
theorem c113 : lowFunc Tryz.prog seat.ties Tryz.f332 = some F113 := by kernel_rfl
theorem c114 : lowFunc Tryz.prog seat.ties Tryz.f20 = some F114 := by kernel_rfl
theorem c115 : lowFunc Tryz.prog seat.ties Tryz.f29 = some F115 := by kernel_rfl
theorem c116 : lowFunc Tryz.prog seat.ties Tryz.f38 = some F116 := by kernel_rfl
theorem c117 : lowFunc Tryz.prog seat.ties Tryz.f165 = some F117 := by kernel_rfl
theorem c118 : lowFunc Tryz.prog seat.ties Tryz.f82 = some F118 := by kernel_rfl
theorem c119 : lowFunc Tryz.prog seat.ties Tryz.f119 = some F119 := by kernel_rfl
theorem c120 : lowFunc Tryz.prog seat.ties Tryz.f133 = some F120 := by kernel_rfl
theorem c121 : lowFunc Tryz.prog seat.ties Tryz.f130 = some F121 := by kernel_rfl
theorem c122 : lowFunc Tryz.prog seat.ties Tryz.f75 = some F122 := by kernel_rfl
theorem c123 : lowFunc Tryz.prog seat.ties Tryz.f83 = some F123 := by kernel_rfl
theorem c124 : lowFunc Tryz.prog seat.ties Tryz.f45 = some F124 := by kernel_rfl
theorem c125 : lowFunc Tryz.prog seat.ties Tryz.f72 = some F125 := by kernel_rfl
theorem c126 : lowFunc Tryz.prog seat.ties Tryz.f43 = some F126 := by kernel_rfl
theorem c127 : lowFunc Tryz.prog seat.ties Tryz.f68 = some F127 := by kernel_rfl
theorem c128 : lowFunc Tryz.prog seat.ties Tryz.f44 = some F128 := by kernel_rfl
theorem c129 : lowFunc Tryz.prog seat.ties Tryz.f46 = some F129 := by kernel_rfl
theorem c130 : lowFunc Tryz.prog seat.ties Tryz.f42 = some F130 := by kernel_rfl
theorem c131 : lowFunc Tryz.prog seat.ties Tryz.f122 = some F131 := by kernel_rfl
theorem c132 : lowFunc Tryz.prog seat.ties Tryz.f76 = some F132 := by kernel_rfl
theorem c133 : lowFunc Tryz.prog seat.ties Tryz.f162 = some F133 := by kernel_rfl
theorem c134 : lowFunc Tryz.prog seat.ties Tryz.f161 = some F134 := by kernel_rfl
theorem c135 : lowFunc Tryz.prog seat.ties Tryz.f118 = some F135 := by kernel_rfl
theorem c136 : lowFunc Tryz.prog seat.ties Tryz.f160 = some F136 := by kernel_rfl
theorem c137 : lowFunc Tryz.prog seat.ties Tryz.f187 = some F137 := by kernel_rfl
theorem c138 : lowFunc Tryz.prog seat.ties Tryz.f206 = some F138 := by kernel_rfl
theorem x139 : ExtFn Tryz.prog 78 Extern.AbiNoEscape.same := ⟨Tryz.f78, Tryz.func78, ne_of_beq_false (by kernel_rfl), by kernel_rfl, by kernel_rfl, by kernel_rfl⟩
theorem x140 : ExtFn Tryz.prog 141 Extern.BytealgCount.count := ⟨Tryz.f141, Tryz.func141, ne_of_beq_false (by kernel_rfl), by kernel_rfl, by kernel_rfl, by kernel_rfl⟩
theorem x141 : ExtFn Tryz.prog 150 Extern.BytealgIndexByte.indexByte := ⟨Tryz.f150, Tryz.func150, ne_of_beq_false (by kernel_rfl), by kernel_rfl, by kernel_rfl, by kernel_rfl⟩
theorem c142 : lowFunc Tryz.prog seat.ties Tryz.f166 = some F142 := by kernel_rfl
theorem x143 : ExtFn Tryz.prog 143 (Extern.BytealgMakeNoZero.makeNoZero #[3] #[54]) := ⟨Tryz.f143, Tryz.func143, ne_of_beq_false (by kernel_rfl), by kernel_rfl, by kernel_rfl, by kernel_rfl⟩
theorem x144 : ExtFn Tryz.prog 251 (Extern.Race.marked .acquire) := ⟨Tryz.f251, Tryz.func251, ne_of_beq_false (by kernel_rfl), by kernel_rfl, by kernel_rfl, by kernel_rfl⟩
theorem x145 : ExtFn Tryz.prog 248 (fun _ => do mark .disable; pure Extern.Race.none_) := ⟨Tryz.f248, Tryz.func248, ne_of_beq_false (by kernel_rfl), by kernel_rfl, by kernel_rfl, by kernel_rfl⟩
theorem x146 : ExtFn Tryz.prog 250 (fun _ => do mark .enable; pure Extern.Race.none_) := ⟨Tryz.f250, Tryz.func250, ne_of_beq_false (by kernel_rfl), by kernel_rfl, by kernel_rfl, by kernel_rfl⟩
theorem x147 : ExtFn Tryz.prog 253 (Extern.Race.marked .releaseMerge) := ⟨Tryz.f253, Tryz.func253, ne_of_beq_false (by kernel_rfl), by kernel_rfl, by kernel_rfl, by kernel_rfl⟩
theorem c148 : lowFunc Tryz.prog seat.ties Tryz.f107 = some F148 := by kernel_rfl
theorem c149 : lowFunc Tryz.prog seat.ties Tryz.f95 = some F149 := by kernel_rfl
theorem c150 : lowFunc Tryz.prog seat.ties Tryz.f138 = some F150 := by kernel_rfl
theorem c151 : lowFunc Tryz.prog seat.ties Tryz.f90 = some F151 := by kernel_rfl
theorem c152 : lowFunc Tryz.prog seat.ties Tryz.f96 = some F152 := by kernel_rfl
theorem c153 : lowFunc Tryz.prog seat.ties Tryz.f142 = some F153 := by kernel_rfl
theorem c154 : lowFunc Tryz.prog seat.ties Tryz.f108 = some F154 := by kernel_rfl
theorem c155 : lowFunc Tryz.prog seat.ties Tryz.f303 = some F155 := by kernel_rfl
theorem c156 : lowFunc Tryz.prog seat.ties Tryz.f314 = some F156 := by kernel_rfl
theorem c157 : lowFunc Tryz.prog seat.ties Tryz.f234 = some F157 := by kernel_rfl
theorem c158 : lowFunc Tryz.prog seat.ties Tryz.f148 = some F158 := by kernel_rfl
theorem c159 : lowFunc Tryz.prog seat.ties Tryz.f237 = some F159 := by kernel_rfl
theorem c160 : lowFunc Tryz.prog seat.ties Tryz.f41 = some F160 := by kernel_rfl
theorem c161 : lowFunc Tryz.prog seat.ties Tryz.f316 = some F161 := by kernel_rfl
theorem c162 : lowFunc Tryz.prog seat.ties Tryz.f310 = some F162 := by kernel_rfl
theorem c163 : lowFunc Tryz.prog seat.ties Tryz.f60 = some F163 := by kernel_rfl
theorem c164 : lowFunc Tryz.prog seat.ties Tryz.f344 = some F164 := by kernel_rfl
theorem c165 : lowFunc Tryz.prog seat.ties Tryz.f364 = some F165 := by kernel_rfl
theorem c166 : lowFunc Tryz.prog seat.ties Tryz.f371 = some F166 := by kernel_rfl
theorem c167 : lowFunc Tryz.prog seat.ties Tryz.f334 = some F167 := by kernel_rfl
theorem c168 : lowFunc Tryz.prog seat.ties Tryz.f348 = some F168 := by kernel_rfl
theorem c169 : lowFunc Tryz.prog seat.ties Tryz.f367 = some F169 := by kernel_rfl
theorem c170 : lowFunc Tryz.prog seat.ties Tryz.f268 = some F170 := by kernel_rfl
theorem c171 : lowFunc Tryz.prog seat.ties Tryz.f181 = some F171 := by kernel_rfl
theorem c172 : lowFunc Tryz.prog seat.ties Tryz.f272 = some F172 := by kernel_rfl
theorem c173 : lowFunc Tryz.prog seat.ties Tryz.f66 = some F173 := by kernel_rfl
theorem c174 : lowFunc Tryz.prog seat.ties Tryz.f349 = some F174 := by kernel_rfl
theorem c175 : lowFunc Tryz.prog seat.ties Tryz.f231 = some F175 := by kernel_rfl
theorem c176 : lowFunc Tryz.prog seat.ties Tryz.f97 = some F176 := by kernel_rfl
theorem c177 : lowFunc Tryz.prog seat.ties Tryz.f338 = some F177 := by kernel_rfl
theorem c178 : lowFunc Tryz.prog seat.ties Tryz.f373 = some F178 := by kernel_rfl
theorem c179 : lowFunc Tryz.prog seat.ties Tryz.f361 = some F179 := by kernel_rfl
theorem c180 : lowFunc Tryz.prog seat.ties Tryz.f98 = some F180 := by kernel_rfl
theorem c181 : lowFunc Tryz.prog seat.ties Tryz.f92 = some F181 := by kernel_rfl
theorem c182 : lowFunc Tryz.prog seat.ties Tryz.f67 = some F182 := by kernel_rfl
theorem c183 : lowFunc Tryz.prog seat.ties Tryz.f58 = some F183 := by kernel_rfl
theorem c184 : lowFunc Tryz.prog seat.ties Tryz.f89 = some F184 := by kernel_rfl
theorem c185 : lowFunc Tryz.prog seat.ties Tryz.f54 = some F185 := by kernel_rfl
theorem c186 : lowFunc Tryz.prog seat.ties Tryz.f59 = some F186 := by kernel_rfl
theorem c187 : lowFunc Tryz.prog seat.ties Tryz.f93 = some F187 := by kernel_rfl
theorem c188 : lowFunc Tryz.prog seat.ties Tryz.f144 = some F188 := by kernel_rfl
theorem c189 : lowFunc Tryz.prog seat.ties Tryz.f70 = some F189 := by kernel_rfl
theorem c190 : lowFunc Tryz.prog seat.ties Tryz.f63 = some F190 := by kernel_rfl
theorem c191 : lowFunc Tryz.prog seat.ties Tryz.f175 = some F191 := by kernel_rfl
theorem c192 : lowFunc Tryz.prog seat.ties Tryz.f34 = some F192 := by kernel_rfl
theorem c193 : lowFunc Tryz.prog seat.ties Tryz.f132 = some F193 := by kernel_rfl
theorem c194 : lowFunc Tryz.prog seat.ties Tryz.f120 = some F194 := by kernel_rfl
theorem c195 : lowFunc Tryz.prog seat.ties Tryz.f151 = some F195 := by kernel_rfl
theorem c196 : lowFunc Tryz.prog seat.ties Tryz.f110 = some F196 := by kernel_rfl
theorem c197 : lowFunc Tryz.prog seat.ties Tryz.f33 = some F197 := by kernel_rfl
theorem c198 : lowFunc Tryz.prog seat.ties Tryz.f117 = some F198 := by kernel_rfl
theorem c199 : lowFunc Tryz.prog seat.ties Tryz.f159 = some F199 := by kernel_rfl
theorem c200 : lowFunc Tryz.prog seat.ties Tryz.f158 = some F200 := by kernel_rfl
theorem c201 : lowFunc Tryz.prog seat.ties Tryz.f55 = some F201 := by kernel_rfl
theorem c202 : lowFunc Tryz.prog seat.ties Tryz.f100 = some F202 := by kernel_rfl
theorem c203 : lowFunc Tryz.prog seat.ties Tryz.f184 = some F203 := by kernel_rfl
theorem c204 : lowFunc Tryz.prog seat.ties Tryz.f176 = some F204 := by kernel_rfl
theorem x205 : ExtFn Tryz.prog 254 (Extern.Atomic.update (Op.intArith .add) .i32 true) := ⟨Tryz.f254, Tryz.func254, ne_of_beq_false (by kernel_rfl), by kernel_rfl, by kernel_rfl, by kernel_rfl⟩
theorem x206 : ExtFn Tryz.prog 249 (Extern.Atomic.casT (.int .i32)) := ⟨Tryz.f249, Tryz.func249, ne_of_beq_false (by kernel_rfl), by kernel_rfl, by kernel_rfl, by kernel_rfl⟩
theorem x207 : ExtFn Tryz.prog 208 (Extern.Atomic.loadT (.int .u32)) := ⟨Tryz.f208, Tryz.func208, ne_of_beq_false (by kernel_rfl), by kernel_rfl, by kernel_rfl, by kernel_rfl⟩
theorem x208 : ExtFn Tryz.prog 225 Extern.Atomic.storeT := ⟨Tryz.f225, Tryz.func225, ne_of_beq_false (by kernel_rfl), by kernel_rfl, by kernel_rfl, by kernel_rfl⟩
theorem c209 : lowFunc Tryz.prog seat.ties Tryz.f226 = some F209 := by kernel_rfl
theorem c210 : lowFunc Tryz.prog seat.ties Tryz.f186 = some F210 := by kernel_rfl
theorem c211 : lowFunc Tryz.prog seat.ties Tryz.f203 = some F211 := by kernel_rfl
theorem c212 : lowFunc Tryz.prog seat.ties Tryz.f140 = some F212 := by kernel_rfl
theorem c213 : lowFunc Tryz.prog seat.ties Tryz.f185 = some F213 := by kernel_rfl
theorem c214 : lowFunc Tryz.prog seat.ties Tryz.f204 = some F214 := by kernel_rfl
theorem c215 : lowFunc Tryz.prog seat.ties Tryz.f145 = some F215 := by kernel_rfl
theorem c216 : lowFunc Tryz.prog seat.ties Tryz.f146 = some F216 := by kernel_rfl
theorem c217 : lowFunc Tryz.prog seat.ties Tryz.f236 = some F217 := by kernel_rfl
theorem c218 : lowFunc Tryz.prog seat.ties Tryz.f339 = some F218 := by kernel_rfl
theorem c219 : lowFunc Tryz.prog seat.ties Tryz.f291 = some F219 := by kernel_rfl
theorem c220 : lowFunc Tryz.prog seat.ties Tryz.f292 = some F220 := by kernel_rfl
theorem c221 : lowFunc Tryz.prog seat.ties Tryz.f295 = some F221 := by kernel_rfl
theorem c222 : lowFunc Tryz.prog seat.ties Tryz.f294 = some F222 := by kernel_rfl
theorem c223 : lowFunc Tryz.prog seat.ties Tryz.f300 = some F223 := by kernel_rfl
theorem c224 : lowFunc Tryz.prog seat.ties Tryz.f301 = some F224 := by kernel_rfl
theorem c225 : lowFunc Tryz.prog seat.ties Tryz.f365 = some F225 := by kernel_rfl
theorem c226 : lowFunc Tryz.prog seat.ties Tryz.f377 = some F226 := by kernel_rfl
theorem t1 (keep : Nat → Bool) : Tied ctx keep 1 F1 := .inl ⟨Tryz.f358, Tryz.func358, by kernel_rfl, c1, fun e h => by cases h⟩
theorem t2 (keep : Nat → Bool) : Tied ctx keep 2 F2 := .inl ⟨Tryz.f336, Tryz.func336, by kernel_rfl, c2, fun e h => by cases h⟩
theorem t3 (keep : Nat → Bool) : Tied ctx keep 3 F3 := .inl ⟨Tryz.f87, Tryz.func87, by kernel_rfl, c3, fun e h => by cases h⟩
theorem t4 (keep : Nat → Bool) : Tied ctx keep 4 F4 := .inl ⟨Tryz.f88, Tryz.func88, by kernel_rfl, c4, fun e h => by cases h⟩
theorem t5 (keep : Nat → Bool) : Tied ctx keep 5 F5 := .inl ⟨Tryz.f135, Tryz.func135, by kernel_rfl, c5, fun e h => by cases h⟩
theorem t6 (keep : Nat → Bool) : Tied ctx keep 6 F6 := .inl ⟨Tryz.f125, Tryz.func125, by kernel_rfl, c6, fun e h => by cases h⟩
theorem t7 (keep : Nat → Bool) : Tied ctx keep 7 F7 := .inl ⟨Tryz.f51, Tryz.func51, by kernel_rfl, c7, fun e h => by cases h⟩
theorem t8 (keep : Nat → Bool) : Tied ctx keep 8 F8 := .inl ⟨Tryz.f137, Tryz.func137, by kernel_rfl, c8, fun e h => by cases h⟩
theorem t9 (keep : Nat → Bool) : Tied ctx keep 9 F9 := .inl ⟨Tryz.f170, Tryz.func170, by kernel_rfl, c9, fun e h => by cases h⟩
theorem t10 (keep : Nat → Bool) : Tied ctx keep 10 F10 := .inl ⟨Tryz.f84, Tryz.func84, by kernel_rfl, c10, fun e h => by cases h⟩
theorem t11 (keep : Nat → Bool) : Tied ctx keep 11 F11 := .inl ⟨Tryz.f131, Tryz.func131, by kernel_rfl, c11, fun e h => by cases h⟩
theorem t12 (keep : Nat → Bool) : Tied ctx keep 12 F12 := .inl ⟨Tryz.f136, Tryz.func136, by kernel_rfl, c12, fun e h => by cases h⟩
theorem t13 (keep : Nat → Bool) : Tied ctx keep 13 F13 := .inl ⟨Tryz.f223, Tryz.func223, by kernel_rfl, c13, fun e h => by cases h⟩
theorem t14 (keep : Nat → Bool) : Tied ctx keep 14 F14 := .inl ⟨Tryz.f224, Tryz.func224, by kernel_rfl, c14, fun e h => by cases h⟩
theorem t15 (keep : Nat → Bool) : Tied ctx keep 15 F15 := .inl ⟨Tryz.f56, Tryz.func56, by kernel_rfl, c15, fun e h => by cases h⟩
theorem t16 (keep : Nat → Bool) : Tied ctx keep 16 F16 := .inl ⟨Tryz.f25, Tryz.func25, by kernel_rfl, c16, fun e h => by cases h⟩
theorem t17 (keep : Nat → Bool) : Tied ctx keep 17 F17 := .inl ⟨Tryz.f106, Tryz.func106, by kernel_rfl, c17, fun e h => by cases h⟩
theorem t18 (keep : Nat → Bool) : Tied ctx keep 18 F18 := .inl ⟨Tryz.f22, Tryz.func22, by kernel_rfl, c18, fun e h => by cases h⟩
theorem t19 (keep : Nat → Bool) : Tied ctx keep 19 F19 := .inl ⟨Tryz.f47, Tryz.func47, by kernel_rfl, c19, fun e h => by cases h⟩
theorem t20 (keep : Nat → Bool) : Tied ctx keep 20 F20 := .inl ⟨Tryz.f94, Tryz.func94, by kernel_rfl, c20, fun e h => by cases h⟩
theorem t21 (keep : Nat → Bool) : Tied ctx keep 21 F21 := .inl ⟨Tryz.f121, Tryz.func121, by kernel_rfl, c21, fun e h => by cases h⟩
theorem t22 (keep : Nat → Bool) : Tied ctx keep 22 F22 := .inl ⟨Tryz.f190, Tryz.func190, by kernel_rfl, c22, fun e h => by cases h⟩
theorem t23 (keep : Nat → Bool) : Tied ctx keep 23 F23 := .inl ⟨Tryz.f164, Tryz.func164, by kernel_rfl, c23, fun e h => by cases h⟩
theorem t24 (keep : Nat → Bool) : Tied ctx keep 24 F24 := .inl ⟨Tryz.f407, Tryz.func407, by kernel_rfl, c24, fun e h => by cases h⟩
theorem t25 (keep : Nat → Bool) : Tied ctx keep 25 F25 := .inl ⟨Tryz.f209, Tryz.func209, by kernel_rfl, c25, fun e h => by cases h⟩
theorem t26 (keep : Nat → Bool) : Tied ctx keep 26 F26 := .inl ⟨Tryz.f210, Tryz.func210, by kernel_rfl, c26, fun e h => by cases h⟩
theorem t27 (keep : Nat → Bool) : Tied ctx keep 27 F27 := .inl ⟨Tryz.f163, Tryz.func163, by kernel_rfl, c27, fun e h => by cases h⟩
theorem t29 (keep : Nat → Bool) : Tied ctx keep 29 F29 := .inl ⟨Tryz.f188, Tryz.func188, by kernel_rfl, c29, fun e h => by cases h⟩
theorem t30 (keep : Nat → Bool) : Tied ctx keep 30 F30 := .inl ⟨Tryz.f211, Tryz.func211, by kernel_rfl, c30, fun e h => by cases h⟩
theorem t31 (keep : Nat → Bool) : Tied ctx keep 31 F31 := .inl ⟨Tryz.f265, Tryz.func265, by kernel_rfl, c31, fun e h => by cases h⟩
theorem t32 (keep : Nat → Bool) : Tied ctx keep 32 F32 := .inl ⟨Tryz.f235, Tryz.func235, by kernel_rfl, c32, fun e h => by cases h⟩
theorem t33 (keep : Nat → Bool) : Tied ctx keep 33 F33 := .inl ⟨Tryz.f263, Tryz.func263, by kernel_rfl, c33, fun e h => by cases h⟩
theorem t34 (keep : Nat → Bool) : Tied ctx keep 34 F34 := .inl ⟨Tryz.f264, Tryz.func264, by kernel_rfl, c34, fun e h => by cases h⟩
theorem t35 (keep : Nat → Bool) : Tied ctx keep 35 F35 := .inl ⟨Tryz.f267, Tryz.func267, by kernel_rfl, c35, fun e h => by cases h⟩
theorem t36 (keep : Nat → Bool) : Tied ctx keep 36 F36 := .inl ⟨Tryz.f266, Tryz.func266, by kernel_rfl, c36, fun e h => by cases h⟩
theorem t37 (keep : Nat → Bool) : Tied ctx keep 37 F37 := .inl ⟨Tryz.f312, Tryz.func312, by kernel_rfl, c37, fun e h => by cases h⟩
theorem t38 (keep : Nat → Bool) : Tied ctx keep 38 F38 := .inl ⟨Tryz.f270, Tryz.func270, by kernel_rfl, c38, fun e h => by cases h⟩
theorem t39 (keep : Nat → Bool) : Tied ctx keep 39 F39 := .inl ⟨Tryz.f233, Tryz.func233, by kernel_rfl, c39, fun e h => by cases h⟩
theorem t40 (keep : Nat → Bool) : Tied ctx keep 40 F40 := .inl ⟨Tryz.f64, Tryz.func64, by kernel_rfl, c40, fun e h => by cases h⟩
theorem t41 (keep : Nat → Bool) : Tied ctx keep 41 F41 := .inl ⟨Tryz.f103, Tryz.func103, by kernel_rfl, c41, fun e h => by cases h⟩
theorem t42 (keep : Nat → Bool) : Tied ctx keep 42 F42 := .inl ⟨Tryz.f149, Tryz.func149, by kernel_rfl, c42, fun e h => by cases h⟩
theorem t43 (keep : Nat → Bool) : Tied ctx keep 43 F43 := .inl ⟨Tryz.f104, Tryz.func104, by kernel_rfl, c43, fun e h => by cases h⟩
theorem t44 (keep : Nat → Bool) : Tied ctx keep 44 F44 := .inl ⟨Tryz.f102, Tryz.func102, by kernel_rfl, c44, fun e h => by cases h⟩
theorem t45 (keep : Nat → Bool) : Tied ctx keep 45 F45 := .inl ⟨Tryz.f101, Tryz.func101, by kernel_rfl, c45, fun e h => by cases h⟩
theorem t46 (keep : Nat → Bool) : Tied ctx keep 46 F46 := .inl ⟨Tryz.f4, Tryz.func4, by kernel_rfl, c46, fun e h => by cases h⟩
theorem t47 (keep : Nat → Bool) : Tied ctx keep 47 F47 := .inl ⟨Tryz.f10, Tryz.func10, by kernel_rfl, c47, fun e h => by cases h⟩
theorem t48 (keep : Nat → Bool) : Tied ctx keep 48 F48 := .inl ⟨Tryz.f40, Tryz.func40, by kernel_rfl, c48, fun e h => by cases h⟩
theorem t49 (keep : Nat → Bool) : Tied ctx keep 49 F49 := .inl ⟨Tryz.f61, Tryz.func61, by kernel_rfl, c49, fun e h => by cases h⟩
theorem t50 (keep : Nat → Bool) : Tied ctx keep 50 F50 := .inl ⟨Tryz.f134, Tryz.func134, by kernel_rfl, c50, fun e h => by cases h⟩
theorem t51 (keep : Nat → Bool) : Tied ctx keep 51 F51 := .inl ⟨Tryz.f23, Tryz.func23, by kernel_rfl, c51, fun e h => by cases h⟩
theorem t52 (keep : Nat → Bool) : Tied ctx keep 52 F52 := .inl ⟨Tryz.f62, Tryz.func62, by kernel_rfl, c52, fun e h => by cases h⟩
theorem t53 (keep : Nat → Bool) : Tied ctx keep 53 F53 := .inl ⟨Tryz.f99, Tryz.func99, by kernel_rfl, c53, fun e h => by cases h⟩
theorem t54 (keep : Nat → Bool) : Tied ctx keep 54 F54 := .inl ⟨Tryz.f169, Tryz.func169, by kernel_rfl, c54, fun e h => by cases h⟩
theorem t55 (keep : Nat → Bool) : Tied ctx keep 55 F55 := .inl ⟨Tryz.f230, Tryz.func230, by kernel_rfl, c55, fun e h => by cases h⟩
theorem t56 (keep : Nat → Bool) : Tied ctx keep 56 F56 := .inl ⟨Tryz.f192, Tryz.func192, by kernel_rfl, c56, fun e h => by cases h⟩
theorem t57 (keep : Nat → Bool) : Tied ctx keep 57 F57 := .inl ⟨Tryz.f261, Tryz.func261, by kernel_rfl, c57, fun e h => by cases h⟩
theorem t58 (keep : Nat → Bool) : Tied ctx keep 58 F58 := .inl ⟨Tryz.f269, Tryz.func269, by kernel_rfl, c58, fun e h => by cases h⟩
theorem t59 (keep : Nat → Bool) : Tied ctx keep 59 F59 := .inl ⟨Tryz.f315, Tryz.func315, by kernel_rfl, c59, fun e h => by cases h⟩
theorem t60 (keep : Nat → Bool) : Tied ctx keep 60 F60 := .inl ⟨Tryz.f232, Tryz.func232, by kernel_rfl, c60, fun e h => by cases h⟩
theorem t61 (keep : Nat → Bool) : Tied ctx keep 61 F61 := .inl ⟨Tryz.f215, Tryz.func215, by kernel_rfl, c61, fun e h => by cases h⟩
theorem t62 (keep : Nat → Bool) : Tied ctx keep 62 F62 := .inl ⟨Tryz.f216, Tryz.func216, by kernel_rfl, c62, fun e h => by cases h⟩
theorem t63 (keep : Nat → Bool) : Tied ctx keep 63 F63 := .inl ⟨Tryz.f238, Tryz.func238, by kernel_rfl, c63, fun e h => by cases h⟩
theorem t64 (keep : Nat → Bool) : Tied ctx keep 64 F64 := .inl ⟨Tryz.f304, Tryz.func304, by kernel_rfl, c64, fun e h => by cases h⟩
theorem t65 (keep : Nat → Bool) : Tied ctx keep 65 F65 := .inl ⟨Tryz.f260, Tryz.func260, by kernel_rfl, c65, fun e h => by cases h⟩
theorem t66 (keep : Nat → Bool) : Tied ctx keep 66 F66 := .inl ⟨Tryz.f309, Tryz.func309, by kernel_rfl, c66, fun e h => by cases h⟩
theorem t67 (keep : Nat → Bool) : Tied ctx keep 67 F67 := .inl ⟨Tryz.f306, Tryz.func306, by kernel_rfl, c67, fun e h => by cases h⟩
theorem t68 (keep : Nat → Bool) : Tied ctx keep 68 F68 := .inl ⟨Tryz.f305, Tryz.func305, by kernel_rfl, c68, fun e h => by cases h⟩
theorem t69 (keep : Nat → Bool) : Tied ctx keep 69 F69 := .inl ⟨Tryz.f357, Tryz.func357, by kernel_rfl, c69, fun e h => by cases h⟩
theorem t70 (keep : Nat → Bool) : Tied ctx keep 70 F70 := .inl ⟨Tryz.f18, Tryz.func18, by kernel_rfl, c70, fun e h => by cases h⟩
theorem t71 (keep : Nat → Bool) : Tied ctx keep 71 F71 := .inl ⟨Tryz.f31, Tryz.func31, by kernel_rfl, c71, fun e h => by cases h⟩
theorem t72 (keep : Nat → Bool) : Tied ctx keep 72 F72 := .inl ⟨Tryz.f28, Tryz.func28, by kernel_rfl, c72, fun e h => by cases h⟩
theorem t73 (keep : Nat → Bool) : Tied ctx keep 73 F73 := .inl ⟨Tryz.f11, Tryz.func11, by kernel_rfl, c73, fun e h => by cases h⟩
theorem t74 (keep : Nat → Bool) : Tied ctx keep 74 F74 := .inl ⟨Tryz.f15, Tryz.func15, by kernel_rfl, c74, fun e h => by cases h⟩
theorem t75 (keep : Nat → Bool) : Tied ctx keep 75 F75 := .inl ⟨Tryz.f32, Tryz.func32, by kernel_rfl, c75, fun e h => by cases h⟩
theorem t76 (keep : Nat → Bool) : Tied ctx keep 76 F76 := .inl ⟨Tryz.f35, Tryz.func35, by kernel_rfl, c76, fun e h => by cases h⟩
theorem t77 (keep : Nat → Bool) : Tied ctx keep 77 F77 := .inl ⟨Tryz.f57, Tryz.func57, by kernel_rfl, c77, fun e h => by cases h⟩
theorem t78 (keep : Nat → Bool) : Tied ctx keep 78 F78 := .inl ⟨Tryz.f39, Tryz.func39, by kernel_rfl, c78, fun e h => by cases h⟩
theorem t79 (keep : Nat → Bool) : Tied ctx keep 79 F79 := .inl ⟨Tryz.f193, Tryz.func193, by kernel_rfl, c79, fun e h => by cases h⟩
theorem t80 (keep : Nat → Bool) : Tied ctx keep 80 F80 := .inl ⟨Tryz.f65, Tryz.func65, by kernel_rfl, c80, fun e h => by cases h⟩
theorem t81 (keep : Nat → Bool) : Tied ctx keep 81 F81 := .inl ⟨Tryz.f77, Tryz.func77, by kernel_rfl, c81, fun e h => by cases h⟩
theorem t82 (keep : Nat → Bool) : Tied ctx keep 82 F82 := .inl ⟨Tryz.f71, Tryz.func71, by kernel_rfl, c82, fun e h => by cases h⟩
theorem t83 (keep : Nat → Bool) : Tied ctx keep 83 F83 := .inl ⟨Tryz.f111, Tryz.func111, by kernel_rfl, c83, fun e h => by cases h⟩
theorem t84 (keep : Nat → Bool) : Tied ctx keep 84 F84 := .inl ⟨Tryz.f109, Tryz.func109, by kernel_rfl, c84, fun e h => by cases h⟩
theorem t85 (keep : Nat → Bool) : Tied ctx keep 85 F85 := .inl ⟨Tryz.f258, Tryz.func258, by kernel_rfl, c85, fun e h => by cases h⟩
theorem t86 (keep : Nat → Bool) : Tied ctx keep 86 F86 := .inl ⟨Tryz.f287, Tryz.func287, by kernel_rfl, c86, fun e h => by cases h⟩
theorem t87 (keep : Nat → Bool) : Tied ctx keep 87 F87 := .inl ⟨Tryz.f288, Tryz.func288, by kernel_rfl, c87, fun e h => by cases h⟩
theorem t88 (keep : Nat → Bool) : Tied ctx keep 88 F88 := .inl ⟨Tryz.f298, Tryz.func298, by kernel_rfl, c88, fun e h => by cases h⟩
theorem t89 (keep : Nat → Bool) : Tied ctx keep 89 F89 := .inl ⟨Tryz.f311, Tryz.func311, by kernel_rfl, c89, fun e h => by cases h⟩
theorem t90 (keep : Nat → Bool) : Tied ctx keep 90 F90 := .inl ⟨Tryz.f359, Tryz.func359, by kernel_rfl, c90, fun e h => by cases h⟩
theorem t91 (keep : Nat → Bool) : Tied ctx keep 91 F91 := .inl ⟨Tryz.f30, Tryz.func30, by kernel_rfl, c91, fun e h => by cases h⟩
theorem t92 (keep : Nat → Bool) : Tied ctx keep 92 F92 := .inl ⟨Tryz.f53, Tryz.func53, by kernel_rfl, c92, fun e h => by cases h⟩
theorem t93 (keep : Nat → Bool) : Tied ctx keep 93 F93 := .inl ⟨Tryz.f259, Tryz.func259, by kernel_rfl, c93, fun e h => by cases h⟩
theorem t94 (keep : Nat → Bool) : Tied ctx keep 94 F94 := .inl ⟨Tryz.f317, Tryz.func317, by kernel_rfl, c94, fun e h => by cases h⟩
theorem t95 (keep : Nat → Bool) : Tied ctx keep 95 F95 := .inl ⟨Tryz.f345, Tryz.func345, by kernel_rfl, c95, fun e h => by cases h⟩
theorem t96 (keep : Nat → Bool) : Tied ctx keep 96 F96 := .inl ⟨Tryz.f370, Tryz.func370, by kernel_rfl, c96, fun e h => by cases h⟩
theorem t97 (keep : Nat → Bool) : Tied ctx keep 97 F97 := .inl ⟨Tryz.f302, Tryz.func302, by kernel_rfl, c97, fun e h => by cases h⟩
theorem t98 (keep : Nat → Bool) : Tied ctx keep 98 F98 := .inl ⟨Tryz.f335, Tryz.func335, by kernel_rfl, c98, fun e h => by cases h⟩
theorem t99 (keep : Nat → Bool) : Tied ctx keep 99 F99 := .inl ⟨Tryz.f350, Tryz.func350, by kernel_rfl, c99, fun e h => by cases h⟩
theorem t100 (keep : Nat → Bool) : Tied ctx keep 100 F100 := .inl ⟨Tryz.f368, Tryz.func368, by kernel_rfl, c100, fun e h => by cases h⟩
theorem t101 (keep : Nat → Bool) : Tied ctx keep 101 F101 := .inl ⟨Tryz.f289, Tryz.func289, by kernel_rfl, c101, fun e h => by cases h⟩
theorem t102 (keep : Nat → Bool) : Tied ctx keep 102 F102 := .inl ⟨Tryz.f286, Tryz.func286, by kernel_rfl, c102, fun e h => by cases h⟩
theorem t103 (keep : Nat → Bool) : Tied ctx keep 103 F103 := .inl ⟨Tryz.f297, Tryz.func297, by kernel_rfl, c103, fun e h => by cases h⟩
theorem t104 (keep : Nat → Bool) : Tied ctx keep 104 F104 := .inl ⟨Tryz.f290, Tryz.func290, by kernel_rfl, c104, fun e h => by cases h⟩
theorem t105 (keep : Nat → Bool) : Tied ctx keep 105 F105 := .inl ⟨Tryz.f299, Tryz.func299, by kernel_rfl, c105, fun e h => by cases h⟩
theorem t106 (keep : Nat → Bool) : Tied ctx keep 106 F106 := .inl ⟨Tryz.f293, Tryz.func293, by kernel_rfl, c106, fun e h => by cases h⟩
theorem t107 (keep : Nat → Bool) : Tied ctx keep 107 F107 := .inl ⟨Tryz.f285, Tryz.func285, by kernel_rfl, c107, fun e h => by cases h⟩
theorem t108 (keep : Nat → Bool) : Tied ctx keep 108 F108 := .inl ⟨Tryz.f296, Tryz.func296, by kernel_rfl, c108, fun e h => by cases h⟩
theorem t109 (keep : Nat → Bool) : Tied ctx keep 109 F109 := .inl ⟨Tryz.f330, Tryz.func330, by kernel_rfl, c109, fun e h => by cases h⟩
theorem t110 (keep : Nat → Bool) : Tied ctx keep 110 F110 := .inl ⟨Tryz.f333, Tryz.func333, by kernel_rfl, c110, fun e h => by cases h⟩
theorem t111 (keep : Nat → Bool) : Tied ctx keep 111 F111 := .inl ⟨Tryz.f331, Tryz.func331, by kernel_rfl, c111, fun e h => by cases h⟩
theorem t112 (keep : Nat → Bool) : Tied ctx keep 112 F112 := .inl ⟨Tryz.f329, Tryz.func329, by kernel_rfl, c112, fun e h => by cases h⟩
theorem t113 (keep : Nat → Bool) : Tied ctx keep 113 F113 := .inl ⟨Tryz.f332, Tryz.func332, by kernel_rfl, c113, fun e h => by cases h⟩
theorem t114 (keep : Nat → Bool) : Tied ctx keep 114 F114 := .inl ⟨Tryz.f20, Tryz.func20, by kernel_rfl, c114, fun e h => by cases h⟩
theorem t115 (keep : Nat → Bool) : Tied ctx keep 115 F115 := .inl ⟨Tryz.f29, Tryz.func29, by kernel_rfl, c115, fun e h => by cases h⟩
theorem t116 (keep : Nat → Bool) : Tied ctx keep 116 F116 := .inl ⟨Tryz.f38, Tryz.func38, by kernel_rfl, c116, fun e h => by cases h⟩
theorem t117 (keep : Nat → Bool) : Tied ctx keep 117 F117 := .inl ⟨Tryz.f165, Tryz.func165, by kernel_rfl, c117, fun e h => by cases h⟩
theorem t118 (keep : Nat → Bool) : Tied ctx keep 118 F118 := .inl ⟨Tryz.f82, Tryz.func82, by kernel_rfl, c118, fun e h => by cases h⟩
theorem t119 (keep : Nat → Bool) : Tied ctx keep 119 F119 := .inl ⟨Tryz.f119, Tryz.func119, by kernel_rfl, c119, fun e h => by cases h⟩
theorem t120 (keep : Nat → Bool) : Tied ctx keep 120 F120 := .inl ⟨Tryz.f133, Tryz.func133, by kernel_rfl, c120, fun e h => by cases h⟩
theorem t121 (keep : Nat → Bool) : Tied ctx keep 121 F121 := .inl ⟨Tryz.f130, Tryz.func130, by kernel_rfl, c121, fun e h => by cases h⟩
theorem t122 (keep : Nat → Bool) : Tied ctx keep 122 F122 := .inl ⟨Tryz.f75, Tryz.func75, by kernel_rfl, c122, fun e h => by cases h⟩
theorem t123 (keep : Nat → Bool) : Tied ctx keep 123 F123 := .inl ⟨Tryz.f83, Tryz.func83, by kernel_rfl, c123, fun e h => by cases h⟩
theorem t124 (keep : Nat → Bool) : Tied ctx keep 124 F124 := .inl ⟨Tryz.f45, Tryz.func45, by kernel_rfl, c124, fun e h => by cases h⟩
theorem t125 (keep : Nat → Bool) : Tied ctx keep 125 F125 := .inl ⟨Tryz.f72, Tryz.func72, by kernel_rfl, c125, fun e h => by cases h⟩
theorem t126 (keep : Nat → Bool) : Tied ctx keep 126 F126 := .inl ⟨Tryz.f43, Tryz.func43, by kernel_rfl, c126, fun e h => by cases h⟩
theorem t127 (keep : Nat → Bool) : Tied ctx keep 127 F127 := .inl ⟨Tryz.f68, Tryz.func68, by kernel_rfl, c127, fun e h => by cases h⟩
theorem t128 (keep : Nat → Bool) : Tied ctx keep 128 F128 := .inl ⟨Tryz.f44, Tryz.func44, by kernel_rfl, c128, fun e h => by cases h⟩
theorem t129 (keep : Nat → Bool) : Tied ctx keep 129 F129 := .inl ⟨Tryz.f46, Tryz.func46, by kernel_rfl, c129, fun e h => by cases h⟩
theorem t130 (keep : Nat → Bool) : Tied ctx keep 130 F130 := .inl ⟨Tryz.f42, Tryz.func42, by kernel_rfl, c130, fun e h => by cases h⟩
theorem t131 (keep : Nat → Bool) : Tied ctx keep 131 F131 := .inl ⟨Tryz.f122, Tryz.func122, by kernel_rfl, c131, fun e h => by cases h⟩
theorem t132 (keep : Nat → Bool) : Tied ctx keep 132 F132 := .inl ⟨Tryz.f76, Tryz.func76, by kernel_rfl, c132, fun e h => by cases h⟩
theorem t133 (keep : Nat → Bool) : Tied ctx keep 133 F133 := .inl ⟨Tryz.f162, Tryz.func162, by kernel_rfl, c133, fun e h => by cases h⟩
theorem t134 (keep : Nat → Bool) : Tied ctx keep 134 F134 := .inl ⟨Tryz.f161, Tryz.func161, by kernel_rfl, c134, fun e h => by cases h⟩
theorem t135 (keep : Nat → Bool) : Tied ctx keep 135 F135 := .inl ⟨Tryz.f118, Tryz.func118, by kernel_rfl, c135, fun e h => by cases h⟩
theorem t136 (keep : Nat → Bool) : Tied ctx keep 136 F136 := .inl ⟨Tryz.f160, Tryz.func160, by kernel_rfl, c136, fun e h => by cases h⟩
theorem t137 (keep : Nat → Bool) : Tied ctx keep 137 F137 := .inl ⟨Tryz.f187, Tryz.func187, by kernel_rfl, c137, fun e h => by cases h⟩
theorem t138 (keep : Nat → Bool) : Tied ctx keep 138 F138 := .inl ⟨Tryz.f206, Tryz.func206, by kernel_rfl, c138, fun e h => by cases h⟩
theorem t139 (keep : Nat → Bool) (h : keep 139 = false) : Tied ctx keep 139 F139 := .inr ⟨_, rfl, h, ext_same x139⟩
theorem t140 (keep : Nat → Bool) (h : keep 140 = false) : Tied ctx keep 140 F140 := .inr ⟨_, rfl, h, ext_countString x140⟩
theorem t141 (keep : Nat → Bool) (h : keep 141 = false) : Tied ctx keep 141 F141 := .inr ⟨_, rfl, h, ext_indexByteString x141⟩
theorem t142 (keep : Nat → Bool) : Tied ctx keep 142 F142 := .inl ⟨Tryz.f166, Tryz.func166, by kernel_rfl, c142, fun e h => by cases h⟩
theorem t143 (keep : Nat → Bool) (h : keep 143 = false) : Tied ctx keep 143 F143 := .inr ⟨_, rfl, h, ext_makeNoZero1 (t := 54) (e := 5) x143 (by kernel_rfl) (by kernel_rfl) (by kernel_rfl)⟩
theorem t144 (keep : Nat → Bool) (h : keep 144 = false) : Tied ctx keep 144 F144 := .inr ⟨_, rfl, h, ext_mark x144 (fun _ _ => rfl)⟩
theorem t145 (keep : Nat → Bool) (h : keep 145 = false) : Tied ctx keep 145 F145 := .inr ⟨_, rfl, h, ext_nop x145 (fun _ _ => rfl)⟩
theorem t146 (keep : Nat → Bool) (h : keep 146 = false) : Tied ctx keep 146 F146 := .inr ⟨_, rfl, h, ext_nop x146 (fun _ _ => rfl)⟩
theorem t147 (keep : Nat → Bool) (h : keep 147 = false) : Tied ctx keep 147 F147 := .inr ⟨_, rfl, h, ext_mark x147 (fun _ _ => rfl)⟩
theorem t148 (keep : Nat → Bool) : Tied ctx keep 148 F148 := .inl ⟨Tryz.f107, Tryz.func107, by kernel_rfl, c148, fun e h => by cases h⟩
theorem t149 (keep : Nat → Bool) : Tied ctx keep 149 F149 := .inl ⟨Tryz.f95, Tryz.func95, by kernel_rfl, c149, fun e h => by cases h⟩
theorem t150 (keep : Nat → Bool) : Tied ctx keep 150 F150 := .inl ⟨Tryz.f138, Tryz.func138, by kernel_rfl, c150, fun e h => by cases h⟩
theorem t151 (keep : Nat → Bool) : Tied ctx keep 151 F151 := .inl ⟨Tryz.f90, Tryz.func90, by kernel_rfl, c151, fun e h => by cases h⟩
theorem t152 (keep : Nat → Bool) : Tied ctx keep 152 F152 := .inl ⟨Tryz.f96, Tryz.func96, by kernel_rfl, c152, fun e h => by cases h⟩
theorem t153 (keep : Nat → Bool) : Tied ctx keep 153 F153 := .inl ⟨Tryz.f142, Tryz.func142, by kernel_rfl, c153, fun e h => by cases h⟩
theorem t154 (keep : Nat → Bool) : Tied ctx keep 154 F154 := .inl ⟨Tryz.f108, Tryz.func108, by kernel_rfl, c154, fun e h => by cases h⟩
theorem t155 (keep : Nat → Bool) : Tied ctx keep 155 F155 := .inl ⟨Tryz.f303, Tryz.func303, by kernel_rfl, c155, fun e h => by cases h⟩
theorem t156 (keep : Nat → Bool) : Tied ctx keep 156 F156 := .inl ⟨Tryz.f314, Tryz.func314, by kernel_rfl, c156, fun e h => by cases h⟩
theorem t157 (keep : Nat → Bool) : Tied ctx keep 157 F157 := .inl ⟨Tryz.f234, Tryz.func234, by kernel_rfl, c157, fun e h => by cases h⟩
theorem t158 (keep : Nat → Bool) : Tied ctx keep 158 F158 := .inl ⟨Tryz.f148, Tryz.func148, by kernel_rfl, c158, fun e h => by cases h⟩
theorem t159 (keep : Nat → Bool) : Tied ctx keep 159 F159 := .inl ⟨Tryz.f237, Tryz.func237, by kernel_rfl, c159, fun e h => by cases h⟩
theorem t160 (keep : Nat → Bool) : Tied ctx keep 160 F160 := .inl ⟨Tryz.f41, Tryz.func41, by kernel_rfl, c160, fun e h => by cases h⟩
theorem t161 (keep : Nat → Bool) : Tied ctx keep 161 F161 := .inl ⟨Tryz.f316, Tryz.func316, by kernel_rfl, c161, fun e h => by cases h⟩
theorem t162 (keep : Nat → Bool) : Tied ctx keep 162 F162 := .inl ⟨Tryz.f310, Tryz.func310, by kernel_rfl, c162, fun e h => by cases h⟩
theorem t163 (keep : Nat → Bool) : Tied ctx keep 163 F163 := .inl ⟨Tryz.f60, Tryz.func60, by kernel_rfl, c163, fun e h => by cases h⟩
theorem t164 (keep : Nat → Bool) : Tied ctx keep 164 F164 := .inl ⟨Tryz.f344, Tryz.func344, by kernel_rfl, c164, fun e h => by cases h⟩
theorem t165 (keep : Nat → Bool) : Tied ctx keep 165 F165 := .inl ⟨Tryz.f364, Tryz.func364, by kernel_rfl, c165, fun e h => by cases h⟩
theorem t166 (keep : Nat → Bool) : Tied ctx keep 166 F166 := .inl ⟨Tryz.f371, Tryz.func371, by kernel_rfl, c166, fun e h => by cases h⟩
theorem t167 (keep : Nat → Bool) : Tied ctx keep 167 F167 := .inl ⟨Tryz.f334, Tryz.func334, by kernel_rfl, c167, fun e h => by cases h⟩
theorem t168 (keep : Nat → Bool) : Tied ctx keep 168 F168 := .inl ⟨Tryz.f348, Tryz.func348, by kernel_rfl, c168, fun e h => by cases h⟩
theorem t169 (keep : Nat → Bool) : Tied ctx keep 169 F169 := .inl ⟨Tryz.f367, Tryz.func367, by kernel_rfl, c169, fun e h => by cases h⟩
theorem t170 (keep : Nat → Bool) : Tied ctx keep 170 F170 := .inl ⟨Tryz.f268, Tryz.func268, by kernel_rfl, c170, fun e h => by cases h⟩
theorem t171 (keep : Nat → Bool) : Tied ctx keep 171 F171 := .inl ⟨Tryz.f181, Tryz.func181, by kernel_rfl, c171, fun e h => by cases h⟩
theorem t172 (keep : Nat → Bool) : Tied ctx keep 172 F172 := .inl ⟨Tryz.f272, Tryz.func272, by kernel_rfl, c172, fun e h => by cases h⟩
theorem t173 (keep : Nat → Bool) : Tied ctx keep 173 F173 := .inl ⟨Tryz.f66, Tryz.func66, by kernel_rfl, c173, fun e h => by cases h⟩
theorem t174 (keep : Nat → Bool) : Tied ctx keep 174 F174 := .inl ⟨Tryz.f349, Tryz.func349, by kernel_rfl, c174, fun e h => by cases h⟩
theorem t175 (keep : Nat → Bool) : Tied ctx keep 175 F175 := .inl ⟨Tryz.f231, Tryz.func231, by kernel_rfl, c175, fun e h => by cases h⟩
theorem t176 (keep : Nat → Bool) : Tied ctx keep 176 F176 := .inl ⟨Tryz.f97, Tryz.func97, by kernel_rfl, c176, fun e h => by cases h⟩
theorem t177 (keep : Nat → Bool) : Tied ctx keep 177 F177 := .inl ⟨Tryz.f338, Tryz.func338, by kernel_rfl, c177, fun e h => by cases h⟩
theorem t178 (keep : Nat → Bool) : Tied ctx keep 178 F178 := .inl ⟨Tryz.f373, Tryz.func373, by kernel_rfl, c178, fun e h => by cases h⟩
theorem t179 (keep : Nat → Bool) : Tied ctx keep 179 F179 := .inl ⟨Tryz.f361, Tryz.func361, by kernel_rfl, c179, fun e h => by cases h⟩
theorem t180 (keep : Nat → Bool) : Tied ctx keep 180 F180 := .inl ⟨Tryz.f98, Tryz.func98, by kernel_rfl, c180, fun e h => by cases h⟩
theorem t181 (keep : Nat → Bool) : Tied ctx keep 181 F181 := .inl ⟨Tryz.f92, Tryz.func92, by kernel_rfl, c181, fun e h => by cases h⟩
theorem t182 (keep : Nat → Bool) : Tied ctx keep 182 F182 := .inl ⟨Tryz.f67, Tryz.func67, by kernel_rfl, c182, fun e h => by cases h⟩
theorem t183 (keep : Nat → Bool) : Tied ctx keep 183 F183 := .inl ⟨Tryz.f58, Tryz.func58, by kernel_rfl, c183, fun e h => by cases h⟩
theorem t184 (keep : Nat → Bool) : Tied ctx keep 184 F184 := .inl ⟨Tryz.f89, Tryz.func89, by kernel_rfl, c184, fun e h => by cases h⟩
theorem t185 (keep : Nat → Bool) : Tied ctx keep 185 F185 := .inl ⟨Tryz.f54, Tryz.func54, by kernel_rfl, c185, fun e h => by cases h⟩
theorem t186 (keep : Nat → Bool) : Tied ctx keep 186 F186 := .inl ⟨Tryz.f59, Tryz.func59, by kernel_rfl, c186, fun e h => by cases h⟩
theorem t187 (keep : Nat → Bool) : Tied ctx keep 187 F187 := .inl ⟨Tryz.f93, Tryz.func93, by kernel_rfl, c187, fun e h => by cases h⟩
theorem t188 (keep : Nat → Bool) : Tied ctx keep 188 F188 := .inl ⟨Tryz.f144, Tryz.func144, by kernel_rfl, c188, fun e h => by cases h⟩
theorem t189 (keep : Nat → Bool) : Tied ctx keep 189 F189 := .inl ⟨Tryz.f70, Tryz.func70, by kernel_rfl, c189, fun e h => by cases h⟩
theorem t190 (keep : Nat → Bool) : Tied ctx keep 190 F190 := .inl ⟨Tryz.f63, Tryz.func63, by kernel_rfl, c190, fun e h => by cases h⟩
theorem t191 (keep : Nat → Bool) : Tied ctx keep 191 F191 := .inl ⟨Tryz.f175, Tryz.func175, by kernel_rfl, c191, fun e h => by cases h⟩
theorem t192 (keep : Nat → Bool) : Tied ctx keep 192 F192 := .inl ⟨Tryz.f34, Tryz.func34, by kernel_rfl, c192, fun e h => by cases h⟩
theorem t193 (keep : Nat → Bool) : Tied ctx keep 193 F193 := .inl ⟨Tryz.f132, Tryz.func132, by kernel_rfl, c193, fun e h => by cases h⟩
theorem t194 (keep : Nat → Bool) : Tied ctx keep 194 F194 := .inl ⟨Tryz.f120, Tryz.func120, by kernel_rfl, c194, fun e h => by cases h⟩
theorem t195 (keep : Nat → Bool) : Tied ctx keep 195 F195 := .inl ⟨Tryz.f151, Tryz.func151, by kernel_rfl, c195, fun e h => by cases h⟩
theorem t196 (keep : Nat → Bool) : Tied ctx keep 196 F196 := .inl ⟨Tryz.f110, Tryz.func110, by kernel_rfl, c196, fun e h => by cases h⟩
theorem t197 (keep : Nat → Bool) : Tied ctx keep 197 F197 := .inl ⟨Tryz.f33, Tryz.func33, by kernel_rfl, c197, fun e h => by cases h⟩
theorem t198 (keep : Nat → Bool) : Tied ctx keep 198 F198 := .inl ⟨Tryz.f117, Tryz.func117, by kernel_rfl, c198, fun e h => by cases h⟩
theorem t199 (keep : Nat → Bool) : Tied ctx keep 199 F199 := .inl ⟨Tryz.f159, Tryz.func159, by kernel_rfl, c199, fun e h => by cases h⟩
theorem t200 (keep : Nat → Bool) : Tied ctx keep 200 F200 := .inl ⟨Tryz.f158, Tryz.func158, by kernel_rfl, c200, fun e h => by cases h⟩
theorem t201 (keep : Nat → Bool) : Tied ctx keep 201 F201 := .inl ⟨Tryz.f55, Tryz.func55, by kernel_rfl, c201, fun e h => by cases h⟩
theorem t202 (keep : Nat → Bool) : Tied ctx keep 202 F202 := .inl ⟨Tryz.f100, Tryz.func100, by kernel_rfl, c202, fun e h => by cases h⟩
theorem t203 (keep : Nat → Bool) : Tied ctx keep 203 F203 := .inl ⟨Tryz.f184, Tryz.func184, by kernel_rfl, c203, fun e h => by cases h⟩
theorem t204 (keep : Nat → Bool) : Tied ctx keep 204 F204 := .inl ⟨Tryz.f176, Tryz.func176, by kernel_rfl, c204, fun e h => by cases h⟩
theorem t205 (keep : Nat → Bool) (h : keep 205 = false) : Tied ctx keep 205 F205 := .inr ⟨_, rfl, h, ext_add x205⟩
theorem t206 (keep : Nat → Bool) (h : keep 206 = false) : Tied ctx keep 206 F206 := .inr ⟨_, rfl, h, ext_cas x206⟩
theorem t207 (keep : Nat → Bool) (h : keep 207 = false) : Tied ctx keep 207 F207 := .inr ⟨_, rfl, h, ext_load x207⟩
theorem t208 (keep : Nat → Bool) (h : keep 208 = false) : Tied ctx keep 208 F208 := .inr ⟨_, rfl, h, ext_store x208⟩
theorem t209 (keep : Nat → Bool) : Tied ctx keep 209 F209 := .inl ⟨Tryz.f226, Tryz.func226, by kernel_rfl, c209, fun e h => by cases h⟩
theorem t210 (keep : Nat → Bool) : Tied ctx keep 210 F210 := .inl ⟨Tryz.f186, Tryz.func186, by kernel_rfl, c210, fun e h => by cases h⟩
theorem t211 (keep : Nat → Bool) : Tied ctx keep 211 F211 := .inl ⟨Tryz.f203, Tryz.func203, by kernel_rfl, c211, fun e h => by cases h⟩
theorem t212 (keep : Nat → Bool) : Tied ctx keep 212 F212 := .inl ⟨Tryz.f140, Tryz.func140, by kernel_rfl, c212, fun e h => by cases h⟩
theorem t213 (keep : Nat → Bool) : Tied ctx keep 213 F213 := .inl ⟨Tryz.f185, Tryz.func185, by kernel_rfl, c213, fun e h => by cases h⟩
theorem t214 (keep : Nat → Bool) : Tied ctx keep 214 F214 := .inl ⟨Tryz.f204, Tryz.func204, by kernel_rfl, c214, fun e h => by cases h⟩
theorem t215 (keep : Nat → Bool) : Tied ctx keep 215 F215 := .inl ⟨Tryz.f145, Tryz.func145, by kernel_rfl, c215, fun e h => by cases h⟩
theorem t216 (keep : Nat → Bool) : Tied ctx keep 216 F216 := .inl ⟨Tryz.f146, Tryz.func146, by kernel_rfl, c216, fun e h => by cases h⟩
theorem t217 (keep : Nat → Bool) : Tied ctx keep 217 F217 := .inl ⟨Tryz.f236, Tryz.func236, by kernel_rfl, c217, fun e h => by cases h⟩
theorem t218 (keep : Nat → Bool) : Tied ctx keep 218 F218 := .inl ⟨Tryz.f339, Tryz.func339, by kernel_rfl, c218, fun e h => by cases h⟩
theorem t219 (keep : Nat → Bool) : Tied ctx keep 219 F219 := .inl ⟨Tryz.f291, Tryz.func291, by kernel_rfl, c219, fun e h => by cases h⟩
theorem t220 (keep : Nat → Bool) : Tied ctx keep 220 F220 := .inl ⟨Tryz.f292, Tryz.func292, by kernel_rfl, c220, fun e h => by cases h⟩
theorem t221 (keep : Nat → Bool) : Tied ctx keep 221 F221 := .inl ⟨Tryz.f295, Tryz.func295, by kernel_rfl, c221, fun e h => by cases h⟩
theorem t222 (keep : Nat → Bool) : Tied ctx keep 222 F222 := .inl ⟨Tryz.f294, Tryz.func294, by kernel_rfl, c222, fun e h => by cases h⟩
theorem t223 (keep : Nat → Bool) : Tied ctx keep 223 F223 := .inl ⟨Tryz.f300, Tryz.func300, by kernel_rfl, c223, fun e h => by cases h⟩
theorem t224 (keep : Nat → Bool) : Tied ctx keep 224 F224 := .inl ⟨Tryz.f301, Tryz.func301, by kernel_rfl, c224, fun e h => by cases h⟩
theorem t225 (keep : Nat → Bool) : Tied ctx keep 225 F225 := .inl ⟨Tryz.f365, Tryz.func365, by kernel_rfl, c225, fun e h => by cases h⟩
theorem t226 (keep : Nat → Bool) : Tied ctx keep 226 F226 := .inl ⟨Tryz.f377, Tryz.func377, by kernel_rfl, c226, fun e h => by cases h⟩
end Go.Proofs.YtnblehjhpjfilaaGreatDoor.Ae
namespace Go.Proofs.YtnblehjhpjfilaaGreatDoor.Ae
open Go Go.AE Go.AE.Fns
set_option maxRecDepth 100000
theorem tied (keep : Nat → Bool) (h139 : keep 139 = false) (h140 : keep 140 = false) (h141 : keep 141 = false) (h143 : keep 143 = false) (h144 : keep 144 = false) (h145 : keep 145 = false) (h146 : keep 146 = false) (h147 : keep 147 = false) (h205 : keep 205 = false) (h206 : keep 206 = false) (h207 : keep 207 = false) (h208 : keep 208 = false) : lpT.All (Tied ctx keep) := ⟨t114 keep, ⟨t58 keep, ⟨t30 keep, ⟨t15 keep, ⟨t8 keep, ⟨t4 keep, ⟨t2 keep, ⟨t1 keep, trivial, trivial⟩, ⟨t3 keep, trivial, trivial⟩⟩, ⟨t6 keep, ⟨t5 keep, trivial, trivial⟩, ⟨t7 keep, trivial, trivial⟩⟩⟩, ⟨t12 keep, ⟨t10 keep, ⟨t9 keep, trivial, trivial⟩, ⟨t11 keep, trivial, trivial⟩⟩, ⟨t14 keep, ⟨t13 keep, trivial, trivial⟩, trivial⟩⟩⟩, ⟨t22 keep, ⟨t19 keep, ⟨t17 keep, ⟨t16 keep, trivial, trivial⟩, ⟨t18 keep, trivial, trivial⟩⟩, ⟨t21 keep, ⟨t20 keep, trivial, trivial⟩, trivial⟩⟩, ⟨t26 keep, ⟨t24 keep, ⟨t23 keep, trivial, trivial⟩, ⟨t25 keep, trivial, trivial⟩⟩, ⟨t29 keep, ⟨t27 keep, trivial, trivial⟩, trivial⟩⟩⟩⟩, ⟨t44 keep, ⟨t37 keep, ⟨t34 keep, ⟨t32 keep, ⟨t31 keep, trivial, trivial⟩, ⟨t33 keep, trivial, trivial⟩⟩, ⟨t36 keep, ⟨t35 keep, trivial, trivial⟩, trivial⟩⟩, ⟨t41 keep, ⟨t39 keep, ⟨t38 keep, trivial, trivial⟩, ⟨t40 keep, trivial, trivial⟩⟩, ⟨t43 keep, ⟨t42 keep, trivial, trivial⟩, trivial⟩⟩⟩, ⟨t51 keep, ⟨t48 keep, ⟨t46 keep, ⟨t45 keep, trivial, trivial⟩, ⟨t47 keep, trivial, trivial⟩⟩, ⟨t50 keep, ⟨t49 keep, trivial, trivial⟩, trivial⟩⟩, ⟨t55 keep, ⟨t53 keep, ⟨t52 keep, trivial, trivial⟩, ⟨t54 keep, trivial, trivial⟩⟩, ⟨t57 keep, ⟨t56 keep, trivial, trivial⟩, trivial⟩⟩⟩⟩⟩, ⟨t86 keep, ⟨t72 keep, ⟨t65 keep, ⟨t62 keep, ⟨t60 keep, ⟨t59 keep, trivial, trivial⟩, ⟨t61 keep, trivial, trivial⟩⟩, ⟨t64 keep, ⟨t63 keep, trivial, trivial⟩, trivial⟩⟩, ⟨t69 keep, ⟨t67 keep, ⟨t66 keep, trivial, trivial⟩, ⟨t68 keep, trivial, trivial⟩⟩, ⟨t71 keep, ⟨t70 keep, trivial, trivial⟩, trivial⟩⟩⟩, ⟨t79 keep, ⟨t76 keep, ⟨t74 keep, ⟨t73 keep, trivial, trivial⟩, ⟨t75 keep, trivial, trivial⟩⟩, ⟨t78 keep, ⟨t77 keep, trivial, trivial⟩, trivial⟩⟩, ⟨t83 keep, ⟨t81 keep, ⟨t80 keep, trivial, trivial⟩, ⟨t82 keep, trivial, trivial⟩⟩, ⟨t85 keep, ⟨t84 keep, trivial, trivial⟩, trivial⟩⟩⟩⟩, ⟨t100 keep, ⟨t93 keep, ⟨t90 keep, ⟨t88 keep, ⟨t87 keep, trivial, trivial⟩, ⟨t89 keep, trivial, trivial⟩⟩, ⟨t92 keep, ⟨t91 keep, trivial, trivial⟩, trivial⟩⟩, ⟨t97 keep, ⟨t95 keep, ⟨t94 keep, trivial, trivial⟩, ⟨t96 keep, trivial, trivial⟩⟩, ⟨t99 keep, ⟨t98 keep, trivial, trivial⟩, trivial⟩⟩⟩, ⟨t107 keep, ⟨t104 keep, ⟨t102 keep, ⟨t101 keep, trivial, trivial⟩, ⟨t103 keep, trivial, trivial⟩⟩, ⟨t106 keep, ⟨t105 keep, trivial, trivial⟩, trivial⟩⟩, ⟨t111 keep, ⟨t109 keep, ⟨t108 keep, trivial, trivial⟩, ⟨t110 keep, trivial, trivial⟩⟩, ⟨t113 keep, ⟨t112 keep, trivial, trivial⟩, trivial⟩⟩⟩⟩⟩⟩, ⟨t171 keep, ⟨t143 keep h143, ⟨t129 keep, ⟨t122 keep, ⟨t118 keep, ⟨t116 keep, ⟨t115 keep, trivial, trivial⟩, ⟨t117 keep, trivial, trivial⟩⟩, ⟨t120 keep, ⟨t119 keep, trivial, trivial⟩, ⟨t121 keep, trivial, trivial⟩⟩⟩, ⟨t126 keep, ⟨t124 keep, ⟨t123 keep, trivial, trivial⟩, ⟨t125 keep, trivial, trivial⟩⟩, ⟨t128 keep, ⟨t127 keep, trivial, trivial⟩, trivial⟩⟩⟩, ⟨t136 keep, ⟨t133 keep, ⟨t131 keep, ⟨t130 keep, trivial, trivial⟩, ⟨t132 keep, trivial, trivial⟩⟩, ⟨t135 keep, ⟨t134 keep, trivial, trivial⟩, trivial⟩⟩, ⟨t140 keep h140, ⟨t138 keep, ⟨t137 keep, trivial, trivial⟩, ⟨t139 keep h139, trivial, trivial⟩⟩, ⟨t142 keep, ⟨t141 keep h141, trivial, trivial⟩, trivial⟩⟩⟩⟩, ⟨t157 keep, ⟨t150 keep, ⟨t147 keep h147, ⟨t145 keep h145, ⟨t144 keep h144, trivial, trivial⟩, ⟨t146 keep h146, trivial, trivial⟩⟩, ⟨t149 keep, ⟨t148 keep, trivial, trivial⟩, trivial⟩⟩, ⟨t154 keep, ⟨t152 keep, ⟨t151 keep, trivial, trivial⟩, ⟨t153 keep, trivial, trivial⟩⟩, ⟨t156 keep, ⟨t155 keep, trivial, trivial⟩, trivial⟩⟩⟩, ⟨t164 keep, ⟨t161 keep, ⟨t159 keep, ⟨t158 keep, trivial, trivial⟩, ⟨t160 keep, trivial, trivial⟩⟩, ⟨t163 keep, ⟨t162 keep, trivial, trivial⟩, trivial⟩⟩, ⟨t168 keep, ⟨t166 keep, ⟨t165 keep, trivial, trivial⟩, ⟨t167 keep, trivial, trivial⟩⟩, ⟨t170 keep, ⟨t169 keep, trivial, trivial⟩, trivial⟩⟩⟩⟩⟩, ⟨t199 keep, ⟨t185 keep, ⟨t178 keep, ⟨t175 keep, ⟨t173 keep, ⟨t172 keep, trivial, trivial⟩, ⟨t174 keep, trivial, trivial⟩⟩, ⟨t177 keep, ⟨t176 keep, trivial, trivial⟩, trivial⟩⟩, ⟨t182 keep, ⟨t180 keep, ⟨t179 keep, trivial, trivial⟩, ⟨t181 keep, trivial, trivial⟩⟩, ⟨t184 keep, ⟨t183 keep, trivial, trivial⟩, trivial⟩⟩⟩, ⟨t192 keep, ⟨t189 keep, ⟨t187 keep, ⟨t186 keep, trivial, trivial⟩, ⟨t188 keep, trivial, trivial⟩⟩, ⟨t191 keep, ⟨t190 keep, trivial, trivial⟩, trivial⟩⟩, ⟨t196 keep, ⟨t194 keep, ⟨t193 keep, trivial, trivial⟩, ⟨t195 keep, trivial, trivial⟩⟩, ⟨t198 keep, ⟨t197 keep, trivial, trivial⟩, trivial⟩⟩⟩⟩, ⟨t213 keep, ⟨t206 keep h206, ⟨t203 keep, ⟨t201 keep, ⟨t200 keep, trivial, trivial⟩, ⟨t202 keep, trivial, trivial⟩⟩, ⟨t205 keep h205, ⟨t204 keep, trivial, trivial⟩, trivial⟩⟩, ⟨t210 keep, ⟨t208 keep h208, ⟨t207 keep h207, trivial, trivial⟩, ⟨t209 keep, trivial, trivial⟩⟩, ⟨t212 keep, ⟨t211 keep, trivial, trivial⟩, trivial⟩⟩⟩, ⟨t220 keep, ⟨t217 keep, ⟨t215 keep, ⟨t214 keep, trivial, trivial⟩, ⟨t216 keep, trivial, trivial⟩⟩, ⟨t219 keep, ⟨t218 keep, trivial, trivial⟩, trivial⟩⟩, ⟨t224 keep, ⟨t222 keep, ⟨t221 keep, trivial, trivial⟩, ⟨t223 keep, trivial, trivial⟩⟩, ⟨t226 keep, ⟨t225 keep, trivial, trivial⟩, trivial⟩⟩⟩⟩⟩⟩⟩
theorem onceOk : OnceOk ctx lpT.get once onceN where
  fn := ⟨Tryz.f189, _, _, _, _, _, _, _, _, _, _, _, 0, 1, 2, 3, 4, 0, 0, 210, 211, #[203], #[199, 4], Tryz.func189, ne_of_beq_false (by kernel_rfl), rfl, rfl, rfl, by kernel_rfl, by kernel_rfl, by kernel_rfl, by kernel_rfl, by kernel_rfl, rfl, rfl, by kernel_rfl, by kernel_rfl⟩
  store := ⟨_, _, _, _, (by kernel_rfl : lpT.get 30 = some F30), by kernel_rfl⟩
  unlock := ⟨_, _, _, _, (by kernel_rfl : lpT.get 26 = some F26), by kernel_rfl⟩
  storeF := ⟨Tryz.f211, Tryz.func211, by kernel_rfl, ne_of_beq_false (by kernel_rfl)⟩
  unlockF := ⟨Tryz.f210, Tryz.func210, by kernel_rfl, ne_of_beq_false (by kernel_rfl)⟩
end Go.Proofs.YtnblehjhpjfilaaGreatDoor.Ae
