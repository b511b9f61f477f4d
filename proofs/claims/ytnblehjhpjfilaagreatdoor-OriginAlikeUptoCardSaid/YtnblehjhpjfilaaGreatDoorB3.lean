/- The ties of the lowered functions to the program. -/
import Derived.Test.YtnblehjhpjfilaaGreatDoorB2
import Derived.Test.YtnblehjhpjfilaaGreatDoorProg
import Derived.KernelRfl
import Derived.Test.YtnblehjhpjfilaaGreatDoorRows
import Derived.Test.YtnblehjhpjfilaaGreatDoorA8
namespace Go.Proofs.YtnblehjhpjfilaaGreatDoor.Ae
open Go Go.AE Go.AE.Fns
set_option maxRecDepth 100000
def seat : SeatT where
  id := (.n 192 56 (.n 97 176 (.n 50 244 (.n 26 273 (.n 14 238 (.n 8 269 (.n 5 233 (.n 4 46 (.n 3 267 .l .l) .l) (.n 7 268 (.n 6 234 .l .l) .l)) (.n 11 73 (.n 10 47 (.n 9 270 .l .l) .l) (.n 13 237 (.n 12 236 .l .l) .l))) (.n 20 114 (.n 17 235 (.n 16 240 (.n 15 74 .l .l) .l) (.n 19 271 (.n 18 70 .l .l) .l)) (.n 23 51 (.n 22 18 (.n 21 272 .l .l) .l) (.n 25 16 (.n 24 259 .l .l) .l)))) (.n 38 116 (.n 32 75 (.n 29 115 (.n 28 72 (.n 27 274 .l .l) .l) (.n 31 71 (.n 30 91 .l .l) .l)) (.n 35 76 (.n 34 192 (.n 33 197 .l .l) .l) (.n 37 241 (.n 36 239 .l .l) .l))) (.n 44 128 (.n 41 160 (.n 40 48 (.n 39 78 .l .l) .l) (.n 43 126 (.n 42 130 .l .l) .l)) (.n 47 19 (.n 46 129 (.n 45 124 .l .l) .l) (.n 49 230 (.n 48 229 .l .l) .l))))) (.n 74 280 (.n 62 52 (.n 56 15 (.n 53 92 (.n 52 275 (.n 51 7 .l .l) .l) (.n 55 201 (.n 54 185 .l .l) .l)) (.n 59 186 (.n 58 183 (.n 57 77 .l .l) .l) (.n 61 49 (.n 60 163 .l .l) .l))) (.n 68 127 (.n 65 80 (.n 64 40 (.n 63 190 .l .l) .l) (.n 67 182 (.n 66 173 .l .l) .l)) (.n 71 82 (.n 70 189 (.n 69 278 .l .l) .l) (.n 73 279 (.n 72 125 .l .l) .l)))) (.n 86 277 (.n 80 232 (.n 77 81 (.n 76 132 (.n 75 122 .l .l) .l) (.n 79 231 (.n 78 139 .l .l) .l)) (.n 83 123 (.n 82 118 (.n 81 242 .l .l) .l) (.n 85 276 (.n 84 10 .l .l) .l))) (.n 92 181 (.n 89 184 (.n 88 4 (.n 87 3 .l .l) .l) (.n 91 281 (.n 90 151 .l .l) .l)) (.n 95 149 (.n 94 20 (.n 93 187 .l .l) .l) (.n 96 152 .l .l)))))) (.n 145 215 (.n 121 21 (.n 109 84 (.n 103 41 (.n 100 202 (.n 99 53 (.n 98 180 .l .l) .l) (.n 102 44 (.n 101 45 .l .l) .l)) (.n 106 17 (.n 105 227 (.n 104 43 .l .l) .l) (.n 108 154 (.n 107 148 .l .l) .l))) (.n 115 247 (.n 112 258 (.n 111 83 (.n 110 196 .l .l) .l) (.n 114 252 (.n 113 253 .l .l) .l)) (.n 118 135 (.n 117 198 (.n 116 248 .l .l) .l) (.n 120 194 (.n 119 119 .l .l) .l)))) (.n 133 120 (.n 127 285 (.n 124 283 (.n 123 282 (.n 122 131 .l .l) .l) (.n 126 284 (.n 125 6 .l .l) .l)) (.n 130 121 (.n 129 287 (.n 128 286 .l .l) .l) (.n 132 193 (.n 131 11 .l .l) .l))) (.n 139 265 (.n 136 12 (.n 135 5 (.n 134 50 .l .l) .l) (.n 138 150 (.n 137 8 .l .l) .l)) (.n 142 153 (.n 141 140 (.n 140 212 .l .l) .l) (.n 144 188 (.n 143 143 .l .l) .l))))) (.n 169 54 (.n 157 256 (.n 151 195 (.n 148 158 (.n 147 260 (.n 146 216 .l .l) .l) (.n 150 141 (.n 149 42 .l .l) .l)) (.n 154 255 (.n 153 250 (.n 152 243 .l .l) .l) (.n 156 249 (.n 155 246 .l .l) .l))) (.n 163 27 (.n 160 136 (.n 159 199 (.n 158 200 .l .l) .l) (.n 162 133 (.n 161 134 .l .l) .l)) (.n 166 142 (.n 165 117 (.n 164 23 .l .l) .l) (.n 168 289 (.n 167 288 .l .l) .l)))) (.n 181 171 (.n 175 191 (.n 172 291 (.n 171 290 (.n 170 9 .l .l) .l) (.n 174 293 (.n 173 292 .l .l) .l)) (.n 178 228 (.n 177 264 (.n 176 204 .l .l) .l) (.n 180 263 (.n 179 245 .l .l) .l))) (.n 187 137 (.n 184 203 (.n 183 257 (.n 182 296 .l .l) .l) (.n 186 210 (.n 185 213 .l .l) .l)) (.n 190 22 (.n 189 28 (.n 188 29 .l .l) .l) (.n 191 294 .l .l))))))) (.n 287 86 (.n 240 327 (.n 216 62 (.n 204 214 (.n 198 297 (.n 195 300 (.n 194 295 (.n 193 79 .l .l) .l) (.n 197 251 (.n 196 266 .l .l) .l)) (.n 201 298 (.n 200 261 (.n 199 262 .l .l) .l) (.n 203 211 (.n 202 299 .l .l) .l))) (.n 210 26 (.n 207 309 (.n 206 138 (.n 205 301 .l .l) .l) (.n 209 25 (.n 208 207 .l .l) .l)) (.n 213 303 (.n 212 302 (.n 211 30 .l .l) .l) (.n 215 61 (.n 214 304 .l .l) .l)))) (.n 228 312 (.n 222 310 (.n 219 305 (.n 218 307 (.n 217 306 .l .l) .l) (.n 221 308 (.n 220 254 .l .l) .l)) (.n 225 208 (.n 224 14 (.n 223 13 .l .l) .l) (.n 227 311 (.n 226 209 .l .l) .l))) (.n 234 157 (.n 231 175 (.n 230 55 (.n 229 313 .l .l) .l) (.n 233 39 (.n 232 60 .l .l) .l)) (.n 237 159 (.n 236 217 (.n 235 32 .l .l) .l) (.n 239 314 (.n 238 63 .l .l) .l))))) (.n 264 34 (.n 252 323 (.n 246 321 (.n 243 317 (.n 242 316 (.n 241 315 .l .l) .l) (.n 245 319 (.n 244 318 .l .l) .l)) (.n 249 206 (.n 248 145 (.n 247 320 .l .l) .l) (.n 251 144 (.n 250 146 .l .l) .l))) (.n 258 85 (.n 255 376 (.n 254 205 (.n 253 147 .l .l) .l) (.n 257 324 (.n 256 322 .l .l) .l)) (.n 261 57 (.n 260 65 (.n 259 93 .l .l) .l) (.n 263 33 (.n 262 325 .l .l) .l)))) (.n 276 331 (.n 270 38 (.n 267 35 (.n 266 36 (.n 265 31 .l .l) .l) (.n 269 58 (.n 268 170 .l .l) .l)) (.n 273 329 (.n 272 172 (.n 271 326 .l .l) .l) (.n 275 330 (.n 274 328 .l .l) .l))) (.n 282 377 (.n 279 334 (.n 278 333 (.n 277 332 .l .l) .l) (.n 281 336 (.n 280 335 .l .l) .l)) (.n 285 107 (.n 284 337 (.n 283 378 .l .l) .l) (.n 286 102 .l .l)))))) (.n 334 167 (.n 311 89 (.n 299 105 (.n 293 106 (.n 290 104 (.n 289 101 (.n 288 87 .l .l) .l) (.n 292 220 (.n 291 219 .l .l) .l)) (.n 296 108 (.n 295 221 (.n 294 222 .l .l) .l) (.n 298 88 (.n 297 103 .l .l) .l))) (.n 305 68 (.n 302 97 (.n 301 224 (.n 300 223 .l .l) .l) (.n 304 64 (.n 303 155 .l .l) .l)) (.n 308 339 (.n 307 338 (.n 306 67 .l .l) .l) (.n 310 162 (.n 309 66 .l .l) .l)))) (.n 323 347 (.n 317 94 (.n 314 156 (.n 313 340 (.n 312 37 .l .l) .l) (.n 316 161 (.n 315 59 .l .l) .l)) (.n 320 344 (.n 319 343 (.n 318 342 .l .l) .l) (.n 322 346 (.n 321 345 .l .l) .l))) (.n 329 112 (.n 326 350 (.n 325 349 (.n 324 348 .l .l) .l) (.n 328 351 (.n 327 341 .l .l) .l)) (.n 332 113 (.n 331 111 (.n 330 109 .l .l) .l) (.n 333 110 .l .l))))) (.n 358 1 (.n 346 356 (.n 340 364 (.n 337 352 (.n 336 2 (.n 335 98 .l .l) .l) (.n 339 218 (.n 338 177 .l .l) .l)) (.n 343 355 (.n 342 354 (.n 341 353 .l .l) .l) (.n 345 95 (.n 344 164 .l .l) .l))) (.n 352 359 (.n 349 174 (.n 348 168 (.n 347 357 .l .l) .l) (.n 351 358 (.n 350 99 .l .l) .l)) (.n 355 362 (.n 354 361 (.n 353 360 .l .l) .l) (.n 357 69 (.n 356 363 .l .l) .l)))) (.n 370 96 (.n 364 165 (.n 361 179 (.n 360 365 (.n 359 90 .l .l) .l) (.n 363 366 (.n 362 369 .l .l) .l)) (.n 367 169 (.n 366 367 (.n 365 225 .l .l) .l) (.n 369 368 (.n 368 100 .l .l) .l))) (.n 376 372 (.n 373 178 (.n 372 371 (.n 371 166 .l .l) .l) (.n 375 373 (.n 374 370 .l .l) .l)) (.n 379 375 (.n 378 374 (.n 377 226 .l .l) .l) (.n 407 24 .l .l))))))))
  fid := (.n 190 63 (.n 95 345 (.n 48 40 (.n 24 407 (.n 12 136 (.n 6 125 (.n 3 87 (.n 2 336 (.n 1 358 .l .l) .l) (.n 5 135 (.n 4 88 .l .l) .l)) (.n 9 170 (.n 8 137 (.n 7 51 .l .l) .l) (.n 11 131 (.n 10 84 .l .l) .l))) (.n 18 22 (.n 15 56 (.n 14 224 (.n 13 223 .l .l) .l) (.n 17 106 (.n 16 25 .l .l) .l)) (.n 21 121 (.n 20 94 (.n 19 47 .l .l) .l) (.n 23 164 (.n 22 190 .l .l) .l)))) (.n 36 266 (.n 30 211 (.n 27 163 (.n 26 210 (.n 25 209 .l .l) .l) (.n 29 188 (.n 28 189 .l .l) .l)) (.n 33 263 (.n 32 235 (.n 31 265 .l .l) .l) (.n 35 267 (.n 34 264 .l .l) .l))) (.n 42 149 (.n 39 233 (.n 38 270 (.n 37 312 .l .l) .l) (.n 41 103 (.n 40 64 .l .l) .l)) (.n 45 101 (.n 44 102 (.n 43 104 .l .l) .l) (.n 47 10 (.n 46 4 .l .l) .l))))) (.n 72 28 (.n 60 232 (.n 54 169 (.n 51 23 (.n 50 134 (.n 49 61 .l .l) .l) (.n 53 99 (.n 52 62 .l .l) .l)) (.n 57 261 (.n 56 192 (.n 55 230 .l .l) .l) (.n 59 315 (.n 58 269 .l .l) .l))) (.n 66 309 (.n 63 238 (.n 62 216 (.n 61 215 .l .l) .l) (.n 65 260 (.n 64 304 .l .l) .l)) (.n 69 357 (.n 68 305 (.n 67 306 .l .l) .l) (.n 71 31 (.n 70 18 .l .l) .l)))) (.n 84 109 (.n 78 39 (.n 75 32 (.n 74 15 (.n 73 11 .l .l) .l) (.n 77 57 (.n 76 35 .l .l) .l)) (.n 81 77 (.n 80 65 (.n 79 193 .l .l) .l) (.n 83 111 (.n 82 71 .l .l) .l))) (.n 90 359 (.n 87 288 (.n 86 287 (.n 85 258 .l .l) .l) (.n 89 311 (.n 88 298 .l .l) .l)) (.n 93 259 (.n 92 53 (.n 91 30 .l .l) .l) (.n 94 317 .l .l)))))) (.n 143 143 (.n 119 119 (.n 107 285 (.n 101 289 (.n 98 335 (.n 97 302 (.n 96 370 .l .l) .l) (.n 100 368 (.n 99 350 .l .l) .l)) (.n 104 290 (.n 103 297 (.n 102 286 .l .l) .l) (.n 106 293 (.n 105 299 .l .l) .l))) (.n 113 332 (.n 110 333 (.n 109 330 (.n 108 296 .l .l) .l) (.n 112 329 (.n 111 331 .l .l) .l)) (.n 116 38 (.n 115 29 (.n 114 20 .l .l) .l) (.n 118 82 (.n 117 165 .l .l) .l)))) (.n 131 122 (.n 125 72 (.n 122 75 (.n 121 130 (.n 120 133 .l .l) .l) (.n 124 45 (.n 123 83 .l .l) .l)) (.n 128 44 (.n 127 68 (.n 126 43 .l .l) .l) (.n 130 42 (.n 129 46 .l .l) .l))) (.n 137 187 (.n 134 161 (.n 133 162 (.n 132 76 .l .l) .l) (.n 136 160 (.n 135 118 .l .l) .l)) (.n 140 141 (.n 139 78 (.n 138 206 .l .l) .l) (.n 142 166 (.n 141 150 .l .l) .l))))) (.n 167 334 (.n 155 303 (.n 149 95 (.n 146 250 (.n 145 248 (.n 144 251 .l .l) .l) (.n 148 107 (.n 147 253 .l .l) .l)) (.n 152 96 (.n 151 90 (.n 150 138 .l .l) .l) (.n 154 108 (.n 153 142 .l .l) .l))) (.n 161 316 (.n 158 148 (.n 157 234 (.n 156 314 .l .l) .l) (.n 160 41 (.n 159 237 .l .l) .l)) (.n 164 344 (.n 163 60 (.n 162 310 .l .l) .l) (.n 166 371 (.n 165 364 .l .l) .l)))) (.n 179 361 (.n 173 66 (.n 170 268 (.n 169 367 (.n 168 348 .l .l) .l) (.n 172 272 (.n 171 181 .l .l) .l)) (.n 176 97 (.n 175 231 (.n 174 349 .l .l) .l) (.n 178 373 (.n 177 338 .l .l) .l))) (.n 185 54 (.n 182 67 (.n 181 92 (.n 180 98 .l .l) .l) (.n 184 89 (.n 183 58 .l .l) .l)) (.n 188 144 (.n 187 93 (.n 186 59 .l .l) .l) (.n 189 70 .l .l))))))) (.n 285 127 (.n 238 14 (.n 214 204 (.n 202 100 (.n 196 110 (.n 193 132 (.n 192 34 (.n 191 175 .l .l) .l) (.n 195 151 (.n 194 120 .l .l) .l)) (.n 199 159 (.n 198 117 (.n 197 33 .l .l) .l) (.n 201 55 (.n 200 158 .l .l) .l))) (.n 208 225 (.n 205 254 (.n 204 176 (.n 203 184 .l .l) .l) (.n 207 208 (.n 206 249 .l .l) .l)) (.n 211 203 (.n 210 186 (.n 209 226 .l .l) .l) (.n 213 185 (.n 212 140 .l .l) .l)))) (.n 226 377 (.n 220 292 (.n 217 236 (.n 216 146 (.n 215 145 .l .l) .l) (.n 219 291 (.n 218 339 .l .l) .l)) (.n 223 300 (.n 222 294 (.n 221 295 .l .l) .l) (.n 225 365 (.n 224 301 .l .l) .l))) (.n 232 80 (.n 229 48 (.n 228 178 (.n 227 105 .l .l) .l) (.n 231 79 (.n 230 49 .l .l) .l)) (.n 235 17 (.n 234 6 (.n 233 5 .l .l) .l) (.n 237 13 (.n 236 12 .l .l) .l))))) (.n 262 199 (.n 250 153 (.n 244 50 (.n 241 37 (.n 240 16 (.n 239 36 .l .l) .l) (.n 243 152 (.n 242 81 .l .l) .l)) (.n 247 115 (.n 246 155 (.n 245 179 .l .l) .l) (.n 249 156 (.n 248 116 .l .l) .l))) (.n 256 157 (.n 253 113 (.n 252 114 (.n 251 197 .l .l) .l) (.n 255 154 (.n 254 220 .l .l) .l)) (.n 259 24 (.n 258 112 (.n 257 183 .l .l) .l) (.n 261 200 (.n 260 147 .l .l) .l)))) (.n 274 27 (.n 268 7 (.n 265 139 (.n 264 177 (.n 263 180 .l .l) .l) (.n 267 3 (.n 266 196 .l .l) .l)) (.n 271 19 (.n 270 9 (.n 269 8 .l .l) .l) (.n 273 26 (.n 272 21 .l .l) .l))) (.n 280 74 (.n 277 86 (.n 276 85 (.n 275 52 .l .l) .l) (.n 279 73 (.n 278 69 .l .l) .l)) (.n 283 124 (.n 282 123 (.n 281 91 .l .l) .l) (.n 284 126 .l .l)))))) (.n 332 277 (.n 309 207 (.n 297 198 (.n 291 172 (.n 288 167 (.n 287 129 (.n 286 128 .l .l) .l) (.n 290 171 (.n 289 168 .l .l) .l)) (.n 294 191 (.n 293 174 (.n 292 173 .l .l) .l) (.n 296 182 (.n 295 194 .l .l) .l))) (.n 303 213 (.n 300 195 (.n 299 202 (.n 298 201 .l .l) .l) (.n 302 212 (.n 301 205 .l .l) .l)) (.n 306 217 (.n 305 219 (.n 304 214 .l .l) .l) (.n 308 221 (.n 307 218 .l .l) .l)))) (.n 321 246 (.n 315 241 (.n 312 228 (.n 311 227 (.n 310 222 .l .l) .l) (.n 314 239 (.n 313 229 .l .l) .l)) (.n 318 244 (.n 317 243 (.n 316 242 .l .l) .l) (.n 320 247 (.n 319 245 .l .l) .l))) (.n 327 240 (.n 324 257 (.n 323 252 (.n 322 256 .l .l) .l) (.n 326 271 (.n 325 262 .l .l) .l)) (.n 330 275 (.n 329 273 (.n 328 274 .l .l) .l) (.n 331 276 .l .l))))) (.n 356 346 (.n 344 320 (.n 338 307 (.n 335 280 (.n 334 279 (.n 333 278 .l .l) .l) (.n 337 284 (.n 336 281 .l .l) .l)) (.n 341 327 (.n 340 313 (.n 339 308 .l .l) .l) (.n 343 319 (.n 342 318 .l .l) .l))) (.n 350 326 (.n 347 323 (.n 346 322 (.n 345 321 .l .l) .l) (.n 349 325 (.n 348 324 .l .l) .l)) (.n 353 341 (.n 352 337 (.n 351 328 .l .l) .l) (.n 355 343 (.n 354 342 .l .l) .l)))) (.n 368 369 (.n 362 355 (.n 359 352 (.n 358 351 (.n 357 347 .l .l) .l) (.n 361 354 (.n 360 353 .l .l) .l)) (.n 365 360 (.n 364 340 (.n 363 356 .l .l) .l) (.n 367 366 (.n 366 363 .l .l) .l))) (.n 374 378 (.n 371 372 (.n 370 374 (.n 369 362 .l .l) .l) (.n 373 375 (.n 372 376 .l .l) .l)) (.n 377 282 (.n 376 255 (.n 375 379 .l .l) .l) (.n 378 283 .l .l))))))))
  tag := (.n 255 3 (.n 243 7 (.n 241 6 (.n 9 1 .l .l) .l) (.n 253 2 .l .l)) (.n 262 5 (.n 258 4 .l .l) (.n 309 8 .l .l)))
  untag := (.n 5 262 (.n 3 255 (.n 2 253 (.n 1 9 .l .l) .l) (.n 4 258 .l .l)) (.n 7 243 (.n 6 241 .l .l) (.n 8 309 .l .l)))
  rows := [("Replace", [(5, 24)])]
  gl := (.n 5 (.elt [.int .u8 0, .int .u8 1, .int .u8 56, .int .u8 2, .int .u8 57, .int .u8 49, .int .u8 28, .int .u8 3, .int .u8 61, .int .u8 58, .int .u8 42, .int .u8 50, .int .u8 38, .int .u8 29, .int .u8 17, .int .u8 4, .int .u8 62, .int .u8 47, .int .u8 59, .int .u8 36, .int .u8 45, .int .u8 43, .int .u8 51, .int .u8 22, .int .u8 53, .int .u8 39, .int .u8 33, .int .u8 30, .int .u8 24, .int .u8 18, .int .u8 12, .int .u8 5, .int .u8 63, .int .u8 55, .int .u8 48, .int .u8 27, .int .u8 60, .int .u8 41, .int .u8 37, .int .u8 16, .int .u8 46, .int .u8 35, .int .u8 44, .int .u8 21, .int .u8 52, .int .u8 32, .int .u8 23, .int .u8 11, .int .u8 54, .int .u8 26, .int .u8 40, .int .u8 15, .int .u8 34, .int .u8 20, .int .u8 31, .int .u8 10, .int .u8 25, .int .u8 14, .int .u8 19, .int .u8 9, .int .u8 13, .int .u8 8, .int .u8 7, .int .u8 6] 0) (.n 4 (.elt [.int .u8 0, .int .u8 1, .int .u8 28, .int .u8 2, .int .u8 29, .int .u8 14, .int .u8 24, .int .u8 3, .int .u8 30, .int .u8 22, .int .u8 20, .int .u8 15, .int .u8 25, .int .u8 17, .int .u8 4, .int .u8 8, .int .u8 31, .int .u8 27, .int .u8 13, .int .u8 23, .int .u8 21, .int .u8 19, .int .u8 16, .int .u8 7, .int .u8 26, .int .u8 12, .int .u8 18, .int .u8 6, .int .u8 11, .int .u8 5, .int .u8 10, .int .u8 9] 0) (.n 0 (.elt [.int .u64 1, .int .u64 10, .int .u64 100, .int .u64 1000, .int .u64 10000, .int .u64 100000, .int .u64 1000000, .int .u64 10000000, .int .u64 100000000, .int .u64 1000000000, .int .u64 10000000000, .int .u64 100000000000, .int .u64 1000000000000, .int .u64 10000000000000, .int .u64 100000000000000, .int .u64 1000000000000000, .int .u64 10000000000000000, .int .u64 100000000000000000, .int .u64 1000000000000000000, .int .u64 10000000000000000000] 0) .l .l) .l) (.n 7 (.elt [.bad] 0) (.n 6 (.elt [.bad] 0) .l .l) .l))
  ifs := [241]
theorem row0 : RowOk Tryz.prog seat.untag seat.fid "Replace" (5, 24) := ⟨262, 407, by kernel_rfl, by kernel_rfl, fun v w => by kernel_rfl⟩
theorem tableOk : TableOk Tryz.prog seat.untag seat.fid seat.rows := ⟨⟨row0, trivial⟩, trivial⟩
theorem idOk : seat.id.All fun f i => seat.fid.get i = some f := back_of (by kernel_rfl)
theorem tagOk : seat.tag.All fun t g => seat.untag.get g = some t := back_of (by kernel_rfl)
theorem u8Ok : u8ok Tryz.prog = true := by kernel_rfl
theorem bOk : bldOk Tryz.prog 56 = true := by kernel_rfl
theorem seatOk : SeatOk Tryz.prog seat 56 := ⟨idOk, tagOk, ⟨rfl, ⟨rfl, ⟨rfl, trivial, trivial⟩, trivial⟩, ⟨rfl, ⟨rfl, trivial, trivial⟩, trivial⟩⟩, tableOk, u8Ok, bOk⟩
noncomputable def ctx : Ctx := ctxOf Tryz.prog seat 56 seatOk
end Go.Proofs.YtnblehjhpjfilaaGreatDoor.Ae
namespace Go.Proofs.YtnblehjhpjfilaaGreatDoor.Ae
open Go Go.AE Go.AE.Fns Go.Proofs.Tryz
set_option maxRecDepth 100000
noncomputable abbrev ST := seat.ties
theorem c1 : lowFunc prog ST f358 = some F1 := by kernel_rfl
theorem c2 : lowFunc prog ST f336 = some F2 := by kernel_rfl
theorem c3 : lowFunc prog ST f87 = some F3 := by kernel_rfl
theorem c4 : lowFunc prog ST f88 = some F4 := by kernel_rfl
theorem c5 : lowFunc prog ST f135 = some F5 := by kernel_rfl
theorem c6 : lowFunc prog ST f125 = some F6 := by kernel_rfl
theorem c7 : lowFunc prog ST f51 = some F7 := by kernel_rfl
theorem c8 : lowFunc prog ST f137 = some F8 := by kernel_rfl
theorem c9 : lowFunc prog ST f170 = some F9 := by kernel_rfl
theorem c10 : lowFunc prog ST f84 = some F10 := by kernel_rfl
theorem c11 : lowFunc prog ST f131 = some F11 := by kernel_rfl
theorem c12 : lowFunc prog ST f136 = some F12 := by kernel_rfl
theorem c13 : lowFunc prog ST f223 = some F13 := by kernel_rfl
theorem c14 : lowFunc prog ST f224 = some F14 := by kernel_rfl
theorem c15 : lowFunc prog ST f56 = some F15 := by kernel_rfl
theorem c16 : lowFunc prog ST f25 = some F16 := by kernel_rfl
theorem c17 : lowFunc prog ST f106 = some F17 := by kernel_rfl
theorem c18 : lowFunc prog ST f22 = some F18 := by kernel_rfl
theorem c19 : lowFunc prog ST f47 = some F19 := by kernel_rfl
theorem c20 : lowFunc prog ST f94 = some F20 := by kernel_rfl
theorem c21 : lowFunc prog ST f121 = some F21 := by kernel_rfl
theorem c22 : lowFunc prog ST f190 = some F22 := by kernel_rfl
theorem c23 : lowFunc prog ST f164 = some F23 := by kernel_rfl
theorem c24 : lowFunc prog ST f407 = some F24 := by kernel_rfl
theorem c25 : lowFunc prog ST f209 = some F25 := by kernel_rfl
theorem c26 : lowFunc prog ST f210 = some F26 := by kernel_rfl
theorem c27 : lowFunc prog ST f163 = some F27 := by kernel_rfl
theorem c29 : lowFunc prog ST f188 = some F29 := by kernel_rfl
theorem c30 : lowFunc prog ST f211 = some F30 := by kernel_rfl
theorem c31 : lowFunc prog ST f265 = some F31 := by kernel_rfl
theorem c32 : lowFunc prog ST f235 = some F32 := by kernel_rfl
theorem c33 : lowFunc prog ST f263 = some F33 := by kernel_rfl
theorem c34 : lowFunc prog ST f264 = some F34 := by kernel_rfl
theorem c35 : lowFunc prog ST f267 = some F35 := by kernel_rfl
theorem c36 : lowFunc prog ST f266 = some F36 := by kernel_rfl
theorem c37 : lowFunc prog ST f312 = some F37 := by kernel_rfl
theorem c38 : lowFunc prog ST f270 = some F38 := by kernel_rfl
theorem c39 : lowFunc prog ST f233 = some F39 := by kernel_rfl
theorem c40 : lowFunc prog ST f64 = some F40 := by kernel_rfl
theorem c41 : lowFunc prog ST f103 = some F41 := by kernel_rfl
theorem c42 : lowFunc prog ST f149 = some F42 := by kernel_rfl
theorem c43 : lowFunc prog ST f104 = some F43 := by kernel_rfl
theorem c44 : lowFunc prog ST f102 = some F44 := by kernel_rfl
theorem c45 : lowFunc prog ST f101 = some F45 := by kernel_rfl
theorem c47 : lowFunc prog ST f10 = some F47 := by kernel_rfl
theorem c48 : lowFunc prog ST f40 = some F48 := by kernel_rfl
theorem c49 : lowFunc prog ST f61 = some F49 := by kernel_rfl
theorem c50 : lowFunc prog ST f134 = some F50 := by kernel_rfl
theorem c51 : lowFunc prog ST f23 = some F51 := by kernel_rfl
theorem c52 : lowFunc prog ST f62 = some F52 := by kernel_rfl
theorem c53 : lowFunc prog ST f99 = some F53 := by kernel_rfl
theorem c54 : lowFunc prog ST f169 = some F54 := by kernel_rfl
theorem c55 : lowFunc prog ST f230 = some F55 := by kernel_rfl
theorem c56 : lowFunc prog ST f192 = some F56 := by kernel_rfl
theorem c57 : lowFunc prog ST f261 = some F57 := by kernel_rfl
theorem c58 : lowFunc prog ST f269 = some F58 := by kernel_rfl
theorem c59 : lowFunc prog ST f315 = some F59 := by kernel_rfl
theorem c60 : lowFunc prog ST f232 = some F60 := by kernel_rfl
theorem c61 : lowFunc prog ST f215 = some F61 := by kernel_rfl
theorem c62 : lowFunc prog ST f216 = some F62 := by kernel_rfl
theorem c63 : lowFunc prog ST f238 = some F63 := by kernel_rfl
theorem c64 : lowFunc prog ST f304 = some F64 := by kernel_rfl
theorem c65 : lowFunc prog ST f260 = some F65 := by kernel_rfl
theorem c66 : lowFunc prog ST f309 = some F66 := by kernel_rfl
theorem c67 : lowFunc prog ST f306 = some F67 := by kernel_rfl
theorem c68 : lowFunc prog ST f305 = some F68 := by kernel_rfl
theorem c69 : lowFunc prog ST f357 = some F69 := by kernel_rfl
theorem c70 : lowFunc prog ST f18 = some F70 := by kernel_rfl
theorem c71 : lowFunc prog ST f31 = some F71 := by kernel_rfl
theorem c72 : lowFunc prog ST f28 = some F72 := by kernel_rfl
theorem c73 : lowFunc prog ST f11 = some F73 := by kernel_rfl
theorem c74 : lowFunc prog ST f15 = some F74 := by kernel_rfl
theorem c75 : lowFunc prog ST f32 = some F75 := by kernel_rfl
theorem c76 : lowFunc prog ST f35 = some F76 := by kernel_rfl
theorem c77 : lowFunc prog ST f57 = some F77 := by kernel_rfl
theorem c78 : lowFunc prog ST f39 = some F78 := by kernel_rfl
theorem c79 : lowFunc prog ST f193 = some F79 := by kernel_rfl
theorem c80 : lowFunc prog ST f65 = some F80 := by kernel_rfl
theorem c81 : lowFunc prog ST f77 = some F81 := by kernel_rfl
theorem c82 : lowFunc prog ST f71 = some F82 := by kernel_rfl
theorem c83 : lowFunc prog ST f111 = some F83 := by kernel_rfl
theorem c84 : lowFunc prog ST f109 = some F84 := by kernel_rfl
theorem c85 : lowFunc prog ST f258 = some F85 := by kernel_rfl
theorem c86 : lowFunc prog ST f287 = some F86 := by kernel_rfl
theorem c87 : lowFunc prog ST f288 = some F87 := by kernel_rfl
theorem c88 : lowFunc prog ST f298 = some F88 := by kernel_rfl
theorem c89 : lowFunc prog ST f311 = some F89 := by kernel_rfl
theorem c90 : lowFunc prog ST f359 = some F90 := by kernel_rfl
theorem c91 : lowFunc prog ST f30 = some F91 := by kernel_rfl
theorem c92 : lowFunc prog ST f53 = some F92 := by kernel_rfl
theorem c93 : lowFunc prog ST f259 = some F93 := by kernel_rfl
theorem c94 : lowFunc prog ST f317 = some F94 := by kernel_rfl
theorem c95 : lowFunc prog ST f345 = some F95 := by kernel_rfl
theorem c96 : lowFunc prog ST f370 = some F96 := by kernel_rfl
theorem c97 : lowFunc prog ST f302 = some F97 := by kernel_rfl
theorem c98 : lowFunc prog ST f335 = some F98 := by kernel_rfl
theorem c99 : lowFunc prog ST f350 = some F99 := by kernel_rfl
theorem c100 : lowFunc prog ST f368 = some F100 := by kernel_rfl
theorem c101 : lowFunc prog ST f289 = some F101 := by kernel_rfl
theorem c102 : lowFunc prog ST f286 = some F102 := by kernel_rfl
theorem c103 : lowFunc prog ST f297 = some F103 := by kernel_rfl
theorem c104 : lowFunc prog ST f290 = some F104 := by kernel_rfl
theorem c105 : lowFunc prog ST f299 = some F105 := by kernel_rfl
theorem c106 : lowFunc prog ST f293 = some F106 := by kernel_rfl
theorem c107 : lowFunc prog ST f285 = some F107 := by kernel_rfl
theorem c108 : lowFunc prog ST f296 = some F108 := by kernel_rfl
theorem c109 : lowFunc prog ST f330 = some F109 := by kernel_rfl
theorem c110 : lowFunc prog ST f333 = some F110 := by kernel_rfl
theorem c111 : lowFunc prog ST f331 = some F111 := by kernel_rfl
theorem c112 : lowFunc prog ST f329 = some F112 := by kernel_rfl
theorem c113 : lowFunc prog ST f332 = some F113 := by kernel_rfl
theorem c114 : lowFunc prog ST f20 = some F114 := by kernel_rfl
theorem c115 : lowFunc prog ST f29 = some F115 := by kernel_rfl
theorem c116 : lowFunc prog ST f38 = some F116 := by kernel_rfl
theorem c117 : lowFunc prog ST f165 = some F117 := by kernel_rfl
theorem c118 : lowFunc prog ST f82 = some F118 := by kernel_rfl
theorem c119 : lowFunc prog ST f119 = some F119 := by kernel_rfl
theorem c120 : lowFunc prog ST f133 = some F120 := by kernel_rfl
theorem c121 : lowFunc prog ST f130 = some F121 := by kernel_rfl
theorem c122 : lowFunc prog ST f75 = some F122 := by kernel_rfl
theorem c123 : lowFunc prog ST f83 = some F123 := by kernel_rfl
theorem c124 : lowFunc prog ST f45 = some F124 := by kernel_rfl
theorem c125 : lowFunc prog ST f72 = some F125 := by kernel_rfl
theorem c126 : lowFunc prog ST f43 = some F126 := by kernel_rfl
theorem c127 : lowFunc prog ST f68 = some F127 := by kernel_rfl
theorem c128 : lowFunc prog ST f44 = some F128 := by kernel_rfl
theorem c129 : lowFunc prog ST f46 = some F129 := by kernel_rfl
theorem c130 : lowFunc prog ST f42 = some F130 := by kernel_rfl
theorem c131 : lowFunc prog ST f122 = some F131 := by kernel_rfl
theorem c132 : lowFunc prog ST f76 = some F132 := by kernel_rfl
theorem c133 : lowFunc prog ST f162 = some F133 := by kernel_rfl
theorem c134 : lowFunc prog ST f161 = some F134 := by kernel_rfl
theorem c135 : lowFunc prog ST f118 = some F135 := by kernel_rfl
theorem c136 : lowFunc prog ST f160 = some F136 := by kernel_rfl
theorem c137 : lowFunc prog ST f187 = some F137 := by kernel_rfl
theorem c138 : lowFunc prog ST f206 = some F138 := by kernel_rfl
theorem x139 : ExtFn prog 78 Extern.AbiNoEscape.same := ⟨f78, func78, ne_of_beq_false (by kernel_rfl), by kernel_rfl, by kernel_rfl, by kernel_rfl⟩
theorem x140 : ExtFn prog 141 Extern.BytealgCount.count := ⟨f141, func141, ne_of_beq_false (by kernel_rfl), by kernel_rfl, by kernel_rfl, by kernel_rfl⟩
theorem x141 : ExtFn prog 150 Extern.BytealgIndexByte.indexByte := ⟨f150, func150, ne_of_beq_false (by kernel_rfl), by kernel_rfl, by kernel_rfl, by kernel_rfl⟩
theorem c142 : lowFunc prog ST f166 = some F142 := by kernel_rfl
theorem x143 : ExtFn prog 143 (Extern.BytealgMakeNoZero.makeNoZero #[3] #[54]) := ⟨f143, func143, ne_of_beq_false (by kernel_rfl), by kernel_rfl, by kernel_rfl, by kernel_rfl⟩
theorem x144 : ExtFn prog 251 (Extern.Race.marked .acquire) := ⟨f251, func251, ne_of_beq_false (by kernel_rfl), by kernel_rfl, by kernel_rfl, by kernel_rfl⟩
theorem x145 : ExtFn prog 248 (fun _ => do mark .disable; pure Extern.Race.none_) := ⟨f248, func248, ne_of_beq_false (by kernel_rfl), by kernel_rfl, by kernel_rfl, by kernel_rfl⟩
theorem x146 : ExtFn prog 250 (fun _ => do mark .enable; pure Extern.Race.none_) := ⟨f250, func250, ne_of_beq_false (by kernel_rfl), by kernel_rfl, by kernel_rfl, by kernel_rfl⟩
theorem x147 : ExtFn prog 253 (Extern.Race.marked .releaseMerge) := ⟨f253, func253, ne_of_beq_false (by kernel_rfl), by kernel_rfl, by kernel_rfl, by kernel_rfl⟩
theorem c148 : lowFunc prog ST f107 = some F148 := by kernel_rfl
theorem c149 : lowFunc prog ST f95 = some F149 := by kernel_rfl
theorem c150 : lowFunc prog ST f138 = some F150 := by kernel_rfl
theorem c151 : lowFunc prog ST f90 = some F151 := by kernel_rfl
theorem c152 : lowFunc prog ST f96 = some F152 := by kernel_rfl
theorem c153 : lowFunc prog ST f142 = some F153 := by kernel_rfl
theorem c154 : lowFunc prog ST f108 = some F154 := by kernel_rfl
theorem c155 : lowFunc prog ST f303 = some F155 := by kernel_rfl
theorem c156 : lowFunc prog ST f314 = some F156 := by kernel_rfl
theorem c157 : lowFunc prog ST f234 = some F157 := by kernel_rfl
theorem c158 : lowFunc prog ST f148 = some F158 := by kernel_rfl
theorem c159 : lowFunc prog ST f237 = some F159 := by kernel_rfl
theorem c160 : lowFunc prog ST f41 = some F160 := by kernel_rfl
theorem c161 : lowFunc prog ST f316 = some F161 := by kernel_rfl
theorem c162 : lowFunc prog ST f310 = some F162 := by kernel_rfl
theorem c163 : lowFunc prog ST f60 = some F163 := by kernel_rfl
theorem c164 : lowFunc prog ST f344 = some F164 := by kernel_rfl
theorem c165 : lowFunc prog ST f364 = some F165 := by kernel_rfl
theorem c166 : lowFunc prog ST f371 = some F166 := by kernel_rfl
theorem c167 : lowFunc prog ST f334 = some F167 := by kernel_rfl
theorem c168 : lowFunc prog ST f348 = some F168 := by kernel_rfl
theorem c169 : lowFunc prog ST f367 = some F169 := by kernel_rfl
theorem c170 : lowFunc prog ST f268 = some F170 := by kernel_rfl
theorem c171 : lowFunc prog ST f181 = some F171 := by kernel_rfl
theorem c172 : lowFunc prog ST f272 = some F172 := by kernel_rfl
theorem c173 : lowFunc prog ST f66 = some F173 := by kernel_rfl
theorem c174 : lowFunc prog ST f349 = some F174 := by kernel_rfl
theorem c175 : lowFunc prog ST f231 = some F175 := by kernel_rfl
theorem c176 : lowFunc prog ST f97 = some F176 := by kernel_rfl
theorem c177 : lowFunc prog ST f338 = some F177 := by kernel_rfl
theorem c178 : lowFunc prog ST f373 = some F178 := by kernel_rfl
theorem c179 : lowFunc prog ST f361 = some F179 := by kernel_rfl
theorem c180 : lowFunc prog ST f98 = some F180 := by kernel_rfl
theorem c181 : lowFunc prog ST f92 = some F181 := by kernel_rfl
theorem c182 : lowFunc prog ST f67 = some F182 := by kernel_rfl
theorem c183 : lowFunc prog ST f58 = some F183 := by kernel_rfl
theorem c184 : lowFunc prog ST f89 = some F184 := by kernel_rfl
theorem c185 : lowFunc prog ST f54 = some F185 := by kernel_rfl
theorem c186 : lowFunc prog ST f59 = some F186 := by kernel_rfl
theorem c187 : lowFunc prog ST f93 = some F187 := by kernel_rfl
theorem c188 : lowFunc prog ST f144 = some F188 := by kernel_rfl
theorem c189 : lowFunc prog ST f70 = some F189 := by kernel_rfl
theorem c190 : lowFunc prog ST f63 = some F190 := by kernel_rfl
theorem c191 : lowFunc prog ST f175 = some F191 := by kernel_rfl
theorem c192 : lowFunc prog ST f34 = some F192 := by kernel_rfl
theorem c193 : lowFunc prog ST f132 = some F193 := by kernel_rfl
theorem c194 : lowFunc prog ST f120 = some F194 := by kernel_rfl
theorem c195 : lowFunc prog ST f151 = some F195 := by kernel_rfl
theorem c196 : lowFunc prog ST f110 = some F196 := by kernel_rfl
theorem c197 : lowFunc prog ST f33 = some F197 := by kernel_rfl
theorem c198 : lowFunc prog ST f117 = some F198 := by kernel_rfl
theorem c199 : lowFunc prog ST f159 = some F199 := by kernel_rfl
theorem c200 : lowFunc prog ST f158 = some F200 := by kernel_rfl
theorem c201 : lowFunc prog ST f55 = some F201 := by kernel_rfl
theorem c202 : lowFunc prog ST f100 = some F202 := by kernel_rfl
theorem c203 : lowFunc prog ST f184 = some F203 := by kernel_rfl
theorem c204 : lowFunc prog ST f176 = some F204 := by kernel_rfl
theorem x205 : ExtFn prog 254 (Extern.Atomic.update (Op.intArith .add) .i32 true) := ⟨f254, func254, ne_of_beq_false (by kernel_rfl), by kernel_rfl, by kernel_rfl, by kernel_rfl⟩
theorem x206 : ExtFn prog 249 (Extern.Atomic.casT (.int .i32)) := ⟨f249, func249, ne_of_beq_false (by kernel_rfl), by kernel_rfl, by kernel_rfl, by kernel_rfl⟩
theorem x207 : ExtFn prog 208 (Extern.Atomic.loadT (.int .u32)) := ⟨f208, func208, ne_of_beq_false (by kernel_rfl), by kernel_rfl, by kernel_rfl, by kernel_rfl⟩
theorem x208 : ExtFn prog 225 Extern.Atomic.storeT := ⟨f225, func225, ne_of_beq_false (by kernel_rfl), by kernel_rfl, by kernel_rfl, by kernel_rfl⟩
theorem c209 : lowFunc prog ST f226 = some F209 := by kernel_rfl
theorem c210 : lowFunc prog ST f186 = some F210 := by kernel_rfl
theorem c211 : lowFunc prog ST f203 = some F211 := by kernel_rfl
theorem c212 : lowFunc prog ST f140 = some F212 := by kernel_rfl
theorem c213 : lowFunc prog ST f185 = some F213 := by kernel_rfl
theorem c214 : lowFunc prog ST f204 = some F214 := by kernel_rfl
theorem c215 : lowFunc prog ST f145 = some F215 := by kernel_rfl
theorem c216 : lowFunc prog ST f146 = some F216 := by kernel_rfl
theorem c227 : lowFunc prog ST f105 = some F227 := by kernel_rfl
theorem c228 : lowFunc prog ST f178 = some F228 := by kernel_rfl
theorem c229 : lowFunc prog ST f48 = some F229 := by kernel_rfl
theorem c230 : lowFunc prog ST f49 = some F230 := by kernel_rfl
theorem c231 : lowFunc prog ST f79 = some F231 := by kernel_rfl
theorem c232 : lowFunc prog ST f80 = some F232 := by kernel_rfl
theorem c233 : lowFunc prog ST f5 = some F233 := by kernel_rfl
theorem c234 : lowFunc prog ST f6 = some F234 := by kernel_rfl
theorem c235 : lowFunc prog ST f17 = some F235 := by kernel_rfl
theorem c236 : lowFunc prog ST f12 = some F236 := by kernel_rfl
theorem c237 : lowFunc prog ST f13 = some F237 := by kernel_rfl
theorem c238 : lowFunc prog ST f14 = some F238 := by kernel_rfl
theorem c239 : lowFunc prog ST f36 = some F239 := by kernel_rfl
theorem c240 : lowFunc prog ST f16 = some F240 := by kernel_rfl
theorem c241 : lowFunc prog ST f37 = some F241 := by kernel_rfl
theorem c242 : lowFunc prog ST f81 = some F242 := by kernel_rfl
theorem c243 : lowFunc prog ST f152 = some F243 := by kernel_rfl
theorem c244 : lowFunc prog ST f50 = some F244 := by kernel_rfl
theorem c245 : lowFunc prog ST f179 = some F245 := by kernel_rfl
theorem c246 : lowFunc prog ST f155 = some F246 := by kernel_rfl
theorem c247 : lowFunc prog ST f115 = some F247 := by kernel_rfl
theorem c248 : lowFunc prog ST f116 = some F248 := by kernel_rfl
theorem c249 : lowFunc prog ST f156 = some F249 := by kernel_rfl
theorem c250 : lowFunc prog ST f153 = some F250 := by kernel_rfl
theorem c251 : lowFunc prog ST f197 = some F251 := by kernel_rfl
theorem c252 : lowFunc prog ST f114 = some F252 := by kernel_rfl
theorem c253 : lowFunc prog ST f113 = some F253 := by kernel_rfl
theorem c254 : lowFunc prog ST f220 = some F254 := by kernel_rfl
theorem c255 : lowFunc prog ST f154 = some F255 := by kernel_rfl
theorem c256 : lowFunc prog ST f157 = some F256 := by kernel_rfl
theorem c257 : lowFunc prog ST f183 = some F257 := by kernel_rfl
theorem c258 : lowFunc prog ST f112 = some F258 := by kernel_rfl
theorem c259 : lowFunc prog ST f24 = some F259 := by kernel_rfl
theorem c260 : lowFunc prog ST f147 = some F260 := by kernel_rfl
theorem c261 : lowFunc prog ST f200 = some F261 := by kernel_rfl
theorem c262 : lowFunc prog ST f199 = some F262 := by kernel_rfl
theorem c263 : lowFunc prog ST f180 = some F263 := by kernel_rfl
theorem c264 : lowFunc prog ST f177 = some F264 := by kernel_rfl
theorem c266 : lowFunc prog ST f196 = some F266 := by kernel_rfl
theorem c297 : lowFunc prog ST f198 = some F297 := by kernel_rfl
theorem c300 : lowFunc prog ST f195 = some F300 := by kernel_rfl
theorem t1 (keep : Nat → Bool) : Tied ctx keep 1 F1 := .inl ⟨f358, func358, by kernel_rfl, c1, fun e h => by cases h⟩
theorem t2 (keep : Nat → Bool) : Tied ctx keep 2 F2 := .inl ⟨f336, func336, by kernel_rfl, c2, fun e h => by cases h⟩
theorem t3 (keep : Nat → Bool) : Tied ctx keep 3 F3 := .inl ⟨f87, func87, by kernel_rfl, c3, fun e h => by cases h⟩
theorem t4 (keep : Nat → Bool) : Tied ctx keep 4 F4 := .inl ⟨f88, func88, by kernel_rfl, c4, fun e h => by cases h⟩
theorem t5 (keep : Nat → Bool) : Tied ctx keep 5 F5 := .inl ⟨f135, func135, by kernel_rfl, c5, fun e h => by cases h⟩
theorem t6 (keep : Nat → Bool) : Tied ctx keep 6 F6 := .inl ⟨f125, func125, by kernel_rfl, c6, fun e h => by cases h⟩
theorem t7 (keep : Nat → Bool) : Tied ctx keep 7 F7 := .inl ⟨f51, func51, by kernel_rfl, c7, fun e h => by cases h⟩
theorem t8 (keep : Nat → Bool) : Tied ctx keep 8 F8 := .inl ⟨f137, func137, by kernel_rfl, c8, fun e h => by cases h⟩
theorem t9 (keep : Nat → Bool) : Tied ctx keep 9 F9 := .inl ⟨f170, func170, by kernel_rfl, c9, fun e h => by cases h⟩
theorem t10 (keep : Nat → Bool) : Tied ctx keep 10 F10 := .inl ⟨f84, func84, by kernel_rfl, c10, fun e h => by cases h⟩
theorem t11 (keep : Nat → Bool) : Tied ctx keep 11 F11 := .inl ⟨f131, func131, by kernel_rfl, c11, fun e h => by cases h⟩
theorem t12 (keep : Nat → Bool) : Tied ctx keep 12 F12 := .inl ⟨f136, func136, by kernel_rfl, c12, fun e h => by cases h⟩
theorem t13 (keep : Nat → Bool) : Tied ctx keep 13 F13 := .inl ⟨f223, func223, by kernel_rfl, c13, fun e h => by cases h⟩
theorem t14 (keep : Nat → Bool) : Tied ctx keep 14 F14 := .inl ⟨f224, func224, by kernel_rfl, c14, fun e h => by cases h⟩
theorem t15 (keep : Nat → Bool) : Tied ctx keep 15 F15 := .inl ⟨f56, func56, by kernel_rfl, c15, fun e h => by cases h⟩
theorem t16 (keep : Nat → Bool) : Tied ctx keep 16 F16 := .inl ⟨f25, func25, by kernel_rfl, c16, fun e h => by cases h⟩
theorem t17 (keep : Nat → Bool) : Tied ctx keep 17 F17 := .inl ⟨f106, func106, by kernel_rfl, c17, fun e h => by cases h⟩
theorem t18 (keep : Nat → Bool) : Tied ctx keep 18 F18 := .inl ⟨f22, func22, by kernel_rfl, c18, fun e h => by cases h⟩
theorem t19 (keep : Nat → Bool) : Tied ctx keep 19 F19 := .inl ⟨f47, func47, by kernel_rfl, c19, fun e h => by cases h⟩
theorem t20 (keep : Nat → Bool) : Tied ctx keep 20 F20 := .inl ⟨f94, func94, by kernel_rfl, c20, fun e h => by cases h⟩
theorem t21 (keep : Nat → Bool) : Tied ctx keep 21 F21 := .inl ⟨f121, func121, by kernel_rfl, c21, fun e h => by cases h⟩
theorem t22 (keep : Nat → Bool) : Tied ctx keep 22 F22 := .inl ⟨f190, func190, by kernel_rfl, c22, fun e h => by cases h⟩
theorem t23 (keep : Nat → Bool) : Tied ctx keep 23 F23 := .inl ⟨f164, func164, by kernel_rfl, c23, fun e h => by cases h⟩
theorem t24 (keep : Nat → Bool) : Tied ctx keep 24 F24 := .inl ⟨f407, func407, by kernel_rfl, c24, fun e h => by cases h⟩
theorem t25 (keep : Nat → Bool) : Tied ctx keep 25 F25 := .inl ⟨f209, func209, by kernel_rfl, c25, fun e h => by cases h⟩
theorem t26 (keep : Nat → Bool) : Tied ctx keep 26 F26 := .inl ⟨f210, func210, by kernel_rfl, c26, fun e h => by cases h⟩
theorem t27 (keep : Nat → Bool) : Tied ctx keep 27 F27 := .inl ⟨f163, func163, by kernel_rfl, c27, fun e h => by cases h⟩
theorem t29 (keep : Nat → Bool) : Tied ctx keep 29 F29 := .inl ⟨f188, func188, by kernel_rfl, c29, fun e h => by cases h⟩
theorem t30 (keep : Nat → Bool) : Tied ctx keep 30 F30 := .inl ⟨f211, func211, by kernel_rfl, c30, fun e h => by cases h⟩
theorem t31 (keep : Nat → Bool) : Tied ctx keep 31 F31 := .inl ⟨f265, func265, by kernel_rfl, c31, fun e h => by cases h⟩
theorem t32 (keep : Nat → Bool) : Tied ctx keep 32 F32 := .inl ⟨f235, func235, by kernel_rfl, c32, fun e h => by cases h⟩
theorem t33 (keep : Nat → Bool) : Tied ctx keep 33 F33 := .inl ⟨f263, func263, by kernel_rfl, c33, fun e h => by cases h⟩
theorem t34 (keep : Nat → Bool) : Tied ctx keep 34 F34 := .inl ⟨f264, func264, by kernel_rfl, c34, fun e h => by cases h⟩
theorem t35 (keep : Nat → Bool) : Tied ctx keep 35 F35 := .inl ⟨f267, func267, by kernel_rfl, c35, fun e h => by cases h⟩
theorem t36 (keep : Nat → Bool) : Tied ctx keep 36 F36 := .inl ⟨f266, func266, by kernel_rfl, c36, fun e h => by cases h⟩
theorem t37 (keep : Nat → Bool) : Tied ctx keep 37 F37 := .inl ⟨f312, func312, by kernel_rfl, c37, fun e h => by cases h⟩
theorem t38 (keep : Nat → Bool) : Tied ctx keep 38 F38 := .inl ⟨f270, func270, by kernel_rfl, c38, fun e h => by cases h⟩
theorem t39 (keep : Nat → Bool) : Tied ctx keep 39 F39 := .inl ⟨f233, func233, by kernel_rfl, c39, fun e h => by cases h⟩
theorem t40 (keep : Nat → Bool) : Tied ctx keep 40 F40 := .inl ⟨f64, func64, by kernel_rfl, c40, fun e h => by cases h⟩
theorem t41 (keep : Nat → Bool) : Tied ctx keep 41 F41 := .inl ⟨f103, func103, by kernel_rfl, c41, fun e h => by cases h⟩
theorem t42 (keep : Nat → Bool) : Tied ctx keep 42 F42 := .inl ⟨f149, func149, by kernel_rfl, c42, fun e h => by cases h⟩
theorem t43 (keep : Nat → Bool) : Tied ctx keep 43 F43 := .inl ⟨f104, func104, by kernel_rfl, c43, fun e h => by cases h⟩
theorem t44 (keep : Nat → Bool) : Tied ctx keep 44 F44 := .inl ⟨f102, func102, by kernel_rfl, c44, fun e h => by cases h⟩
theorem t45 (keep : Nat → Bool) : Tied ctx keep 45 F45 := .inl ⟨f101, func101, by kernel_rfl, c45, fun e h => by cases h⟩
theorem t47 (keep : Nat → Bool) : Tied ctx keep 47 F47 := .inl ⟨f10, func10, by kernel_rfl, c47, fun e h => by cases h⟩
theorem t48 (keep : Nat → Bool) : Tied ctx keep 48 F48 := .inl ⟨f40, func40, by kernel_rfl, c48, fun e h => by cases h⟩
theorem t49 (keep : Nat → Bool) : Tied ctx keep 49 F49 := .inl ⟨f61, func61, by kernel_rfl, c49, fun e h => by cases h⟩
theorem t50 (keep : Nat → Bool) : Tied ctx keep 50 F50 := .inl ⟨f134, func134, by kernel_rfl, c50, fun e h => by cases h⟩
theorem t51 (keep : Nat → Bool) : Tied ctx keep 51 F51 := .inl ⟨f23, func23, by kernel_rfl, c51, fun e h => by cases h⟩
theorem t52 (keep : Nat → Bool) : Tied ctx keep 52 F52 := .inl ⟨f62, func62, by kernel_rfl, c52, fun e h => by cases h⟩
theorem t53 (keep : Nat → Bool) : Tied ctx keep 53 F53 := .inl ⟨f99, func99, by kernel_rfl, c53, fun e h => by cases h⟩
theorem t54 (keep : Nat → Bool) : Tied ctx keep 54 F54 := .inl ⟨f169, func169, by kernel_rfl, c54, fun e h => by cases h⟩
theorem t55 (keep : Nat → Bool) : Tied ctx keep 55 F55 := .inl ⟨f230, func230, by kernel_rfl, c55, fun e h => by cases h⟩
theorem t56 (keep : Nat → Bool) : Tied ctx keep 56 F56 := .inl ⟨f192, func192, by kernel_rfl, c56, fun e h => by cases h⟩
theorem t57 (keep : Nat → Bool) : Tied ctx keep 57 F57 := .inl ⟨f261, func261, by kernel_rfl, c57, fun e h => by cases h⟩
theorem t58 (keep : Nat → Bool) : Tied ctx keep 58 F58 := .inl ⟨f269, func269, by kernel_rfl, c58, fun e h => by cases h⟩
theorem t59 (keep : Nat → Bool) : Tied ctx keep 59 F59 := .inl ⟨f315, func315, by kernel_rfl, c59, fun e h => by cases h⟩
theorem t60 (keep : Nat → Bool) : Tied ctx keep 60 F60 := .inl ⟨f232, func232, by kernel_rfl, c60, fun e h => by cases h⟩
theorem t61 (keep : Nat → Bool) : Tied ctx keep 61 F61 := .inl ⟨f215, func215, by kernel_rfl, c61, fun e h => by cases h⟩
theorem t62 (keep : Nat → Bool) : Tied ctx keep 62 F62 := .inl ⟨f216, func216, by kernel_rfl, c62, fun e h => by cases h⟩
theorem t63 (keep : Nat → Bool) : Tied ctx keep 63 F63 := .inl ⟨f238, func238, by kernel_rfl, c63, fun e h => by cases h⟩
theorem t64 (keep : Nat → Bool) : Tied ctx keep 64 F64 := .inl ⟨f304, func304, by kernel_rfl, c64, fun e h => by cases h⟩
theorem t65 (keep : Nat → Bool) : Tied ctx keep 65 F65 := .inl ⟨f260, func260, by kernel_rfl, c65, fun e h => by cases h⟩
theorem t66 (keep : Nat → Bool) : Tied ctx keep 66 F66 := .inl ⟨f309, func309, by kernel_rfl, c66, fun e h => by cases h⟩
theorem t67 (keep : Nat → Bool) : Tied ctx keep 67 F67 := .inl ⟨f306, func306, by kernel_rfl, c67, fun e h => by cases h⟩
theorem t68 (keep : Nat → Bool) : Tied ctx keep 68 F68 := .inl ⟨f305, func305, by kernel_rfl, c68, fun e h => by cases h⟩
theorem t69 (keep : Nat → Bool) : Tied ctx keep 69 F69 := .inl ⟨f357, func357, by kernel_rfl, c69, fun e h => by cases h⟩
theorem t70 (keep : Nat → Bool) : Tied ctx keep 70 F70 := .inl ⟨f18, func18, by kernel_rfl, c70, fun e h => by cases h⟩
theorem t71 (keep : Nat → Bool) : Tied ctx keep 71 F71 := .inl ⟨f31, func31, by kernel_rfl, c71, fun e h => by cases h⟩
theorem t72 (keep : Nat → Bool) : Tied ctx keep 72 F72 := .inl ⟨f28, func28, by kernel_rfl, c72, fun e h => by cases h⟩
theorem t73 (keep : Nat → Bool) : Tied ctx keep 73 F73 := .inl ⟨f11, func11, by kernel_rfl, c73, fun e h => by cases h⟩
theorem t74 (keep : Nat → Bool) : Tied ctx keep 74 F74 := .inl ⟨f15, func15, by kernel_rfl, c74, fun e h => by cases h⟩
theorem t75 (keep : Nat → Bool) : Tied ctx keep 75 F75 := .inl ⟨f32, func32, by kernel_rfl, c75, fun e h => by cases h⟩
theorem t76 (keep : Nat → Bool) : Tied ctx keep 76 F76 := .inl ⟨f35, func35, by kernel_rfl, c76, fun e h => by cases h⟩
theorem t77 (keep : Nat → Bool) : Tied ctx keep 77 F77 := .inl ⟨f57, func57, by kernel_rfl, c77, fun e h => by cases h⟩
theorem t78 (keep : Nat → Bool) : Tied ctx keep 78 F78 := .inl ⟨f39, func39, by kernel_rfl, c78, fun e h => by cases h⟩
theorem t79 (keep : Nat → Bool) : Tied ctx keep 79 F79 := .inl ⟨f193, func193, by kernel_rfl, c79, fun e h => by cases h⟩
theorem t80 (keep : Nat → Bool) : Tied ctx keep 80 F80 := .inl ⟨f65, func65, by kernel_rfl, c80, fun e h => by cases h⟩
theorem t81 (keep : Nat → Bool) : Tied ctx keep 81 F81 := .inl ⟨f77, func77, by kernel_rfl, c81, fun e h => by cases h⟩
theorem t82 (keep : Nat → Bool) : Tied ctx keep 82 F82 := .inl ⟨f71, func71, by kernel_rfl, c82, fun e h => by cases h⟩
theorem t83 (keep : Nat → Bool) : Tied ctx keep 83 F83 := .inl ⟨f111, func111, by kernel_rfl, c83, fun e h => by cases h⟩
theorem t84 (keep : Nat → Bool) : Tied ctx keep 84 F84 := .inl ⟨f109, func109, by kernel_rfl, c84, fun e h => by cases h⟩
theorem t85 (keep : Nat → Bool) : Tied ctx keep 85 F85 := .inl ⟨f258, func258, by kernel_rfl, c85, fun e h => by cases h⟩
theorem t86 (keep : Nat → Bool) : Tied ctx keep 86 F86 := .inl ⟨f287, func287, by kernel_rfl, c86, fun e h => by cases h⟩
theorem t87 (keep : Nat → Bool) : Tied ctx keep 87 F87 := .inl ⟨f288, func288, by kernel_rfl, c87, fun e h => by cases h⟩
theorem t88 (keep : Nat → Bool) : Tied ctx keep 88 F88 := .inl ⟨f298, func298, by kernel_rfl, c88, fun e h => by cases h⟩
theorem t89 (keep : Nat → Bool) : Tied ctx keep 89 F89 := .inl ⟨f311, func311, by kernel_rfl, c89, fun e h => by cases h⟩
theorem t90 (keep : Nat → Bool) : Tied ctx keep 90 F90 := .inl ⟨f359, func359, by kernel_rfl, c90, fun e h => by cases h⟩
theorem t91 (keep : Nat → Bool) : Tied ctx keep 91 F91 := .inl ⟨f30, func30, by kernel_rfl, c91, fun e h => by cases h⟩
theorem t92 (keep : Nat → Bool) : Tied ctx keep 92 F92 := .inl ⟨f53, func53, by kernel_rfl, c92, fun e h => by cases h⟩
theorem t93 (keep : Nat → Bool) : Tied ctx keep 93 F93 := .inl ⟨f259, func259, by kernel_rfl, c93, fun e h => by cases h⟩
theorem t94 (keep : Nat → Bool) : Tied ctx keep 94 F94 := .inl ⟨f317, func317, by kernel_rfl, c94, fun e h => by cases h⟩
theorem t95 (keep : Nat → Bool) : Tied ctx keep 95 F95 := .inl ⟨f345, func345, by kernel_rfl, c95, fun e h => by cases h⟩
theorem t96 (keep : Nat → Bool) : Tied ctx keep 96 F96 := .inl ⟨f370, func370, by kernel_rfl, c96, fun e h => by cases h⟩
theorem t97 (keep : Nat → Bool) : Tied ctx keep 97 F97 := .inl ⟨f302, func302, by kernel_rfl, c97, fun e h => by cases h⟩
theorem t98 (keep : Nat → Bool) : Tied ctx keep 98 F98 := .inl ⟨f335, func335, by kernel_rfl, c98, fun e h => by cases h⟩
theorem t99 (keep : Nat → Bool) : Tied ctx keep 99 F99 := .inl ⟨f350, func350, by kernel_rfl, c99, fun e h => by cases h⟩
theorem t100 (keep : Nat → Bool) : Tied ctx keep 100 F100 := .inl ⟨f368, func368, by kernel_rfl, c100, fun e h => by cases h⟩
theorem t101 (keep : Nat → Bool) : Tied ctx keep 101 F101 := .inl ⟨f289, func289, by kernel_rfl, c101, fun e h => by cases h⟩
theorem t102 (keep : Nat → Bool) : Tied ctx keep 102 F102 := .inl ⟨f286, func286, by kernel_rfl, c102, fun e h => by cases h⟩
theorem t103 (keep : Nat → Bool) : Tied ctx keep 103 F103 := .inl ⟨f297, func297, by kernel_rfl, c103, fun e h => by cases h⟩
theorem t104 (keep : Nat → Bool) : Tied ctx keep 104 F104 := .inl ⟨f290, func290, by kernel_rfl, c104, fun e h => by cases h⟩
theorem t105 (keep : Nat → Bool) : Tied ctx keep 105 F105 := .inl ⟨f299, func299, by kernel_rfl, c105, fun e h => by cases h⟩
theorem t106 (keep : Nat → Bool) : Tied ctx keep 106 F106 := .inl ⟨f293, func293, by kernel_rfl, c106, fun e h => by cases h⟩
theorem t107 (keep : Nat → Bool) : Tied ctx keep 107 F107 := .inl ⟨f285, func285, by kernel_rfl, c107, fun e h => by cases h⟩
theorem t108 (keep : Nat → Bool) : Tied ctx keep 108 F108 := .inl ⟨f296, func296, by kernel_rfl, c108, fun e h => by cases h⟩
theorem t109 (keep : Nat → Bool) : Tied ctx keep 109 F109 := .inl ⟨f330, func330, by kernel_rfl, c109, fun e h => by cases h⟩
theorem t110 (keep : Nat → Bool) : Tied ctx keep 110 F110 := .inl ⟨f333, func333, by kernel_rfl, c110, fun e h => by cases h⟩
theorem t111 (keep : Nat → Bool) : Tied ctx keep 111 F111 := .inl ⟨f331, func331, by kernel_rfl, c111, fun e h => by cases h⟩
theorem t112 (keep : Nat → Bool) : Tied ctx keep 112 F112 := .inl ⟨f329, func329, by kernel_rfl, c112, fun e h => by cases h⟩
theorem t113 (keep : Nat → Bool) : Tied ctx keep 113 F113 := .inl ⟨f332, func332, by kernel_rfl, c113, fun e h => by cases h⟩
theorem t114 (keep : Nat → Bool) : Tied ctx keep 114 F114 := .inl ⟨f20, func20, by kernel_rfl, c114, fun e h => by cases h⟩
theorem t115 (keep : Nat → Bool) : Tied ctx keep 115 F115 := .inl ⟨f29, func29, by kernel_rfl, c115, fun e h => by cases h⟩
theorem t116 (keep : Nat → Bool) : Tied ctx keep 116 F116 := .inl ⟨f38, func38, by kernel_rfl, c116, fun e h => by cases h⟩
theorem t117 (keep : Nat → Bool) : Tied ctx keep 117 F117 := .inl ⟨f165, func165, by kernel_rfl, c117, fun e h => by cases h⟩
theorem t118 (keep : Nat → Bool) : Tied ctx keep 118 F118 := .inl ⟨f82, func82, by kernel_rfl, c118, fun e h => by cases h⟩
theorem t119 (keep : Nat → Bool) : Tied ctx keep 119 F119 := .inl ⟨f119, func119, by kernel_rfl, c119, fun e h => by cases h⟩
theorem t120 (keep : Nat → Bool) : Tied ctx keep 120 F120 := .inl ⟨f133, func133, by kernel_rfl, c120, fun e h => by cases h⟩
theorem t121 (keep : Nat → Bool) : Tied ctx keep 121 F121 := .inl ⟨f130, func130, by kernel_rfl, c121, fun e h => by cases h⟩
theorem t122 (keep : Nat → Bool) : Tied ctx keep 122 F122 := .inl ⟨f75, func75, by kernel_rfl, c122, fun e h => by cases h⟩
theorem t123 (keep : Nat → Bool) : Tied ctx keep 123 F123 := .inl ⟨f83, func83, by kernel_rfl, c123, fun e h => by cases h⟩
theorem t124 (keep : Nat → Bool) : Tied ctx keep 124 F124 := .inl ⟨f45, func45, by kernel_rfl, c124, fun e h => by cases h⟩
theorem t125 (keep : Nat → Bool) : Tied ctx keep 125 F125 := .inl ⟨f72, func72, by kernel_rfl, c125, fun e h => by cases h⟩
theorem t126 (keep : Nat → Bool) : Tied ctx keep 126 F126 := .inl ⟨f43, func43, by kernel_rfl, c126, fun e h => by cases h⟩
theorem t127 (keep : Nat → Bool) : Tied ctx keep 127 F127 := .inl ⟨f68, func68, by kernel_rfl, c127, fun e h => by cases h⟩
theorem t128 (keep : Nat → Bool) : Tied ctx keep 128 F128 := .inl ⟨f44, func44, by kernel_rfl, c128, fun e h => by cases h⟩
theorem t129 (keep : Nat → Bool) : Tied ctx keep 129 F129 := .inl ⟨f46, func46, by kernel_rfl, c129, fun e h => by cases h⟩
theorem t130 (keep : Nat → Bool) : Tied ctx keep 130 F130 := .inl ⟨f42, func42, by kernel_rfl, c130, fun e h => by cases h⟩
theorem t131 (keep : Nat → Bool) : Tied ctx keep 131 F131 := .inl ⟨f122, func122, by kernel_rfl, c131, fun e h => by cases h⟩
theorem t132 (keep : Nat → Bool) : Tied ctx keep 132 F132 := .inl ⟨f76, func76, by kernel_rfl, c132, fun e h => by cases h⟩
theorem t133 (keep : Nat → Bool) : Tied ctx keep 133 F133 := .inl ⟨f162, func162, by kernel_rfl, c133, fun e h => by cases h⟩
theorem t134 (keep : Nat → Bool) : Tied ctx keep 134 F134 := .inl ⟨f161, func161, by kernel_rfl, c134, fun e h => by cases h⟩
theorem t135 (keep : Nat → Bool) : Tied ctx keep 135 F135 := .inl ⟨f118, func118, by kernel_rfl, c135, fun e h => by cases h⟩
theorem t136 (keep : Nat → Bool) : Tied ctx keep 136 F136 := .inl ⟨f160, func160, by kernel_rfl, c136, fun e h => by cases h⟩
theorem t137 (keep : Nat → Bool) : Tied ctx keep 137 F137 := .inl ⟨f187, func187, by kernel_rfl, c137, fun e h => by cases h⟩
theorem t138 (keep : Nat → Bool) : Tied ctx keep 138 F138 := .inl ⟨f206, func206, by kernel_rfl, c138, fun e h => by cases h⟩
theorem t139 (keep : Nat → Bool) (h : keep 139 = false) : Tied ctx keep 139 F139 := .inr ⟨_, rfl, h, ext_same x139⟩
theorem t140 (keep : Nat → Bool) (h : keep 140 = false) : Tied ctx keep 140 F140 := .inr ⟨_, rfl, h, ext_countString x140⟩
theorem t141 (keep : Nat → Bool) (h : keep 141 = false) : Tied ctx keep 141 F141 := .inr ⟨_, rfl, h, ext_indexByteString x141⟩
theorem t142 (keep : Nat → Bool) : Tied ctx keep 142 F142 := .inl ⟨f166, func166, by kernel_rfl, c142, fun e h => by cases h⟩
theorem t143 (keep : Nat → Bool) (h : keep 143 = false) : Tied ctx keep 143 F143 := .inr ⟨_, rfl, h, ext_makeNoZero1 (t := 54) (e := 5) x143 (by kernel_rfl) (by kernel_rfl) (by kernel_rfl)⟩
theorem t144 (keep : Nat → Bool) (h : keep 144 = false) : Tied ctx keep 144 F144 := .inr ⟨_, rfl, h, ext_mark x144 (fun _ _ => rfl)⟩
theorem t145 (keep : Nat → Bool) (h : keep 145 = false) : Tied ctx keep 145 F145 := .inr ⟨_, rfl, h, ext_nop x145 (fun _ _ => rfl)⟩
theorem t146 (keep : Nat → Bool) (h : keep 146 = false) : Tied ctx keep 146 F146 := .inr ⟨_, rfl, h, ext_nop x146 (fun _ _ => rfl)⟩
theorem t147 (keep : Nat → Bool) (h : keep 147 = false) : Tied ctx keep 147 F147 := .inr ⟨_, rfl, h, ext_mark x147 (fun _ _ => rfl)⟩
theorem t148 (keep : Nat → Bool) : Tied ctx keep 148 F148 := .inl ⟨f107, func107, by kernel_rfl, c148, fun e h => by cases h⟩
theorem t149 (keep : Nat → Bool) : Tied ctx keep 149 F149 := .inl ⟨f95, func95, by kernel_rfl, c149, fun e h => by cases h⟩
theorem t150 (keep : Nat → Bool) : Tied ctx keep 150 F150 := .inl ⟨f138, func138, by kernel_rfl, c150, fun e h => by cases h⟩
theorem t151 (keep : Nat → Bool) : Tied ctx keep 151 F151 := .inl ⟨f90, func90, by kernel_rfl, c151, fun e h => by cases h⟩
theorem t152 (keep : Nat → Bool) : Tied ctx keep 152 F152 := .inl ⟨f96, func96, by kernel_rfl, c152, fun e h => by cases h⟩
theorem t153 (keep : Nat → Bool) : Tied ctx keep 153 F153 := .inl ⟨f142, func142, by kernel_rfl, c153, fun e h => by cases h⟩
theorem t154 (keep : Nat → Bool) : Tied ctx keep 154 F154 := .inl ⟨f108, func108, by kernel_rfl, c154, fun e h => by cases h⟩
theorem t155 (keep : Nat → Bool) : Tied ctx keep 155 F155 := .inl ⟨f303, func303, by kernel_rfl, c155, fun e h => by cases h⟩
theorem t156 (keep : Nat → Bool) : Tied ctx keep 156 F156 := .inl ⟨f314, func314, by kernel_rfl, c156, fun e h => by cases h⟩
theorem t157 (keep : Nat → Bool) : Tied ctx keep 157 F157 := .inl ⟨f234, func234, by kernel_rfl, c157, fun e h => by cases h⟩
theorem t158 (keep : Nat → Bool) : Tied ctx keep 158 F158 := .inl ⟨f148, func148, by kernel_rfl, c158, fun e h => by cases h⟩
theorem t159 (keep : Nat → Bool) : Tied ctx keep 159 F159 := .inl ⟨f237, func237, by kernel_rfl, c159, fun e h => by cases h⟩
theorem t160 (keep : Nat → Bool) : Tied ctx keep 160 F160 := .inl ⟨f41, func41, by kernel_rfl, c160, fun e h => by cases h⟩
theorem t161 (keep : Nat → Bool) : Tied ctx keep 161 F161 := .inl ⟨f316, func316, by kernel_rfl, c161, fun e h => by cases h⟩
theorem t162 (keep : Nat → Bool) : Tied ctx keep 162 F162 := .inl ⟨f310, func310, by kernel_rfl, c162, fun e h => by cases h⟩
theorem t163 (keep : Nat → Bool) : Tied ctx keep 163 F163 := .inl ⟨f60, func60, by kernel_rfl, c163, fun e h => by cases h⟩
theorem t164 (keep : Nat → Bool) : Tied ctx keep 164 F164 := .inl ⟨f344, func344, by kernel_rfl, c164, fun e h => by cases h⟩
theorem t165 (keep : Nat → Bool) : Tied ctx keep 165 F165 := .inl ⟨f364, func364, by kernel_rfl, c165, fun e h => by cases h⟩
theorem t166 (keep : Nat → Bool) : Tied ctx keep 166 F166 := .inl ⟨f371, func371, by kernel_rfl, c166, fun e h => by cases h⟩
theorem t167 (keep : Nat → Bool) : Tied ctx keep 167 F167 := .inl ⟨f334, func334, by kernel_rfl, c167, fun e h => by cases h⟩
theorem t168 (keep : Nat → Bool) : Tied ctx keep 168 F168 := .inl ⟨f348, func348, by kernel_rfl, c168, fun e h => by cases h⟩
theorem t169 (keep : Nat → Bool) : Tied ctx keep 169 F169 := .inl ⟨f367, func367, by kernel_rfl, c169, fun e h => by cases h⟩
theorem t170 (keep : Nat → Bool) : Tied ctx keep 170 F170 := .inl ⟨f268, func268, by kernel_rfl, c170, fun e h => by cases h⟩
theorem t171 (keep : Nat → Bool) : Tied ctx keep 171 F171 := .inl ⟨f181, func181, by kernel_rfl, c171, fun e h => by cases h⟩
theorem t172 (keep : Nat → Bool) : Tied ctx keep 172 F172 := .inl ⟨f272, func272, by kernel_rfl, c172, fun e h => by cases h⟩
theorem t173 (keep : Nat → Bool) : Tied ctx keep 173 F173 := .inl ⟨f66, func66, by kernel_rfl, c173, fun e h => by cases h⟩
theorem t174 (keep : Nat → Bool) : Tied ctx keep 174 F174 := .inl ⟨f349, func349, by kernel_rfl, c174, fun e h => by cases h⟩
theorem t175 (keep : Nat → Bool) : Tied ctx keep 175 F175 := .inl ⟨f231, func231, by kernel_rfl, c175, fun e h => by cases h⟩
theorem t176 (keep : Nat → Bool) : Tied ctx keep 176 F176 := .inl ⟨f97, func97, by kernel_rfl, c176, fun e h => by cases h⟩
theorem t177 (keep : Nat → Bool) : Tied ctx keep 177 F177 := .inl ⟨f338, func338, by kernel_rfl, c177, fun e h => by cases h⟩
theorem t178 (keep : Nat → Bool) : Tied ctx keep 178 F178 := .inl ⟨f373, func373, by kernel_rfl, c178, fun e h => by cases h⟩
theorem t179 (keep : Nat → Bool) : Tied ctx keep 179 F179 := .inl ⟨f361, func361, by kernel_rfl, c179, fun e h => by cases h⟩
theorem t180 (keep : Nat → Bool) : Tied ctx keep 180 F180 := .inl ⟨f98, func98, by kernel_rfl, c180, fun e h => by cases h⟩
theorem t181 (keep : Nat → Bool) : Tied ctx keep 181 F181 := .inl ⟨f92, func92, by kernel_rfl, c181, fun e h => by cases h⟩
theorem t182 (keep : Nat → Bool) : Tied ctx keep 182 F182 := .inl ⟨f67, func67, by kernel_rfl, c182, fun e h => by cases h⟩
theorem t183 (keep : Nat → Bool) : Tied ctx keep 183 F183 := .inl ⟨f58, func58, by kernel_rfl, c183, fun e h => by cases h⟩
theorem t184 (keep : Nat → Bool) : Tied ctx keep 184 F184 := .inl ⟨f89, func89, by kernel_rfl, c184, fun e h => by cases h⟩
theorem t185 (keep : Nat → Bool) : Tied ctx keep 185 F185 := .inl ⟨f54, func54, by kernel_rfl, c185, fun e h => by cases h⟩
theorem t186 (keep : Nat → Bool) : Tied ctx keep 186 F186 := .inl ⟨f59, func59, by kernel_rfl, c186, fun e h => by cases h⟩
theorem t187 (keep : Nat → Bool) : Tied ctx keep 187 F187 := .inl ⟨f93, func93, by kernel_rfl, c187, fun e h => by cases h⟩
theorem t188 (keep : Nat → Bool) : Tied ctx keep 188 F188 := .inl ⟨f144, func144, by kernel_rfl, c188, fun e h => by cases h⟩
theorem t189 (keep : Nat → Bool) : Tied ctx keep 189 F189 := .inl ⟨f70, func70, by kernel_rfl, c189, fun e h => by cases h⟩
theorem t190 (keep : Nat → Bool) : Tied ctx keep 190 F190 := .inl ⟨f63, func63, by kernel_rfl, c190, fun e h => by cases h⟩
theorem t191 (keep : Nat → Bool) : Tied ctx keep 191 F191 := .inl ⟨f175, func175, by kernel_rfl, c191, fun e h => by cases h⟩
theorem t192 (keep : Nat → Bool) : Tied ctx keep 192 F192 := .inl ⟨f34, func34, by kernel_rfl, c192, fun e h => by cases h⟩
theorem t193 (keep : Nat → Bool) : Tied ctx keep 193 F193 := .inl ⟨f132, func132, by kernel_rfl, c193, fun e h => by cases h⟩
theorem t194 (keep : Nat → Bool) : Tied ctx keep 194 F194 := .inl ⟨f120, func120, by kernel_rfl, c194, fun e h => by cases h⟩
theorem t195 (keep : Nat → Bool) : Tied ctx keep 195 F195 := .inl ⟨f151, func151, by kernel_rfl, c195, fun e h => by cases h⟩
theorem t196 (keep : Nat → Bool) : Tied ctx keep 196 F196 := .inl ⟨f110, func110, by kernel_rfl, c196, fun e h => by cases h⟩
theorem t197 (keep : Nat → Bool) : Tied ctx keep 197 F197 := .inl ⟨f33, func33, by kernel_rfl, c197, fun e h => by cases h⟩
theorem t198 (keep : Nat → Bool) : Tied ctx keep 198 F198 := .inl ⟨f117, func117, by kernel_rfl, c198, fun e h => by cases h⟩
theorem t199 (keep : Nat → Bool) : Tied ctx keep 199 F199 := .inl ⟨f159, func159, by kernel_rfl, c199, fun e h => by cases h⟩
theorem t200 (keep : Nat → Bool) : Tied ctx keep 200 F200 := .inl ⟨f158, func158, by kernel_rfl, c200, fun e h => by cases h⟩
theorem t201 (keep : Nat → Bool) : Tied ctx keep 201 F201 := .inl ⟨f55, func55, by kernel_rfl, c201, fun e h => by cases h⟩
theorem t202 (keep : Nat → Bool) : Tied ctx keep 202 F202 := .inl ⟨f100, func100, by kernel_rfl, c202, fun e h => by cases h⟩
theorem t203 (keep : Nat → Bool) : Tied ctx keep 203 F203 := .inl ⟨f184, func184, by kernel_rfl, c203, fun e h => by cases h⟩
theorem t204 (keep : Nat → Bool) : Tied ctx keep 204 F204 := .inl ⟨f176, func176, by kernel_rfl, c204, fun e h => by cases h⟩
theorem t205 (keep : Nat → Bool) (h : keep 205 = false) : Tied ctx keep 205 F205 := .inr ⟨_, rfl, h, ext_add x205⟩
theorem t206 (keep : Nat → Bool) (h : keep 206 = false) : Tied ctx keep 206 F206 := .inr ⟨_, rfl, h, ext_cas x206⟩
theorem t207 (keep : Nat → Bool) (h : keep 207 = false) : Tied ctx keep 207 F207 := .inr ⟨_, rfl, h, ext_load x207⟩
theorem t208 (keep : Nat → Bool) (h : keep 208 = false) : Tied ctx keep 208 F208 := .inr ⟨_, rfl, h, ext_store x208⟩
theorem t209 (keep : Nat → Bool) : Tied ctx keep 209 F209 := .inl ⟨f226, func226, by kernel_rfl, c209, fun e h => by cases h⟩
theorem t210 (keep : Nat → Bool) : Tied ctx keep 210 F210 := .inl ⟨f186, func186, by kernel_rfl, c210, fun e h => by cases h⟩
theorem t211 (keep : Nat → Bool) : Tied ctx keep 211 F211 := .inl ⟨f203, func203, by kernel_rfl, c211, fun e h => by cases h⟩
theorem t212 (keep : Nat → Bool) : Tied ctx keep 212 F212 := .inl ⟨f140, func140, by kernel_rfl, c212, fun e h => by cases h⟩
theorem t213 (keep : Nat → Bool) : Tied ctx keep 213 F213 := .inl ⟨f185, func185, by kernel_rfl, c213, fun e h => by cases h⟩
theorem t214 (keep : Nat → Bool) : Tied ctx keep 214 F214 := .inl ⟨f204, func204, by kernel_rfl, c214, fun e h => by cases h⟩
theorem t215 (keep : Nat → Bool) : Tied ctx keep 215 F215 := .inl ⟨f145, func145, by kernel_rfl, c215, fun e h => by cases h⟩
theorem t216 (keep : Nat → Bool) : Tied ctx keep 216 F216 := .inl ⟨f146, func146, by kernel_rfl, c216, fun e h => by cases h⟩
theorem t227 (keep : Nat → Bool) : Tied ctx keep 227 F227 := .inl ⟨f105, func105, by kernel_rfl, c227, fun e h => by cases h⟩
theorem t228 (keep : Nat → Bool) : Tied ctx keep 228 F228 := .inl ⟨f178, func178, by kernel_rfl, c228, fun e h => by cases h⟩
theorem t229 (keep : Nat → Bool) : Tied ctx keep 229 F229 := .inl ⟨f48, func48, by kernel_rfl, c229, fun e h => by cases h⟩
theorem t230 (keep : Nat → Bool) : Tied ctx keep 230 F230 := .inl ⟨f49, func49, by kernel_rfl, c230, fun e h => by cases h⟩
theorem t231 (keep : Nat → Bool) : Tied ctx keep 231 F231 := .inl ⟨f79, func79, by kernel_rfl, c231, fun e h => by cases h⟩
theorem t232 (keep : Nat → Bool) : Tied ctx keep 232 F232 := .inl ⟨f80, func80, by kernel_rfl, c232, fun e h => by cases h⟩
theorem t233 (keep : Nat → Bool) : Tied ctx keep 233 F233 := .inl ⟨f5, func5, by kernel_rfl, c233, fun e h => by cases h⟩
theorem t234 (keep : Nat → Bool) : Tied ctx keep 234 F234 := .inl ⟨f6, func6, by kernel_rfl, c234, fun e h => by cases h⟩
theorem t235 (keep : Nat → Bool) : Tied ctx keep 235 F235 := .inl ⟨f17, func17, by kernel_rfl, c235, fun e h => by cases h⟩
theorem t236 (keep : Nat → Bool) : Tied ctx keep 236 F236 := .inl ⟨f12, func12, by kernel_rfl, c236, fun e h => by cases h⟩
theorem t237 (keep : Nat → Bool) : Tied ctx keep 237 F237 := .inl ⟨f13, func13, by kernel_rfl, c237, fun e h => by cases h⟩
theorem t238 (keep : Nat → Bool) : Tied ctx keep 238 F238 := .inl ⟨f14, func14, by kernel_rfl, c238, fun e h => by cases h⟩
theorem t239 (keep : Nat → Bool) : Tied ctx keep 239 F239 := .inl ⟨f36, func36, by kernel_rfl, c239, fun e h => by cases h⟩
theorem t240 (keep : Nat → Bool) : Tied ctx keep 240 F240 := .inl ⟨f16, func16, by kernel_rfl, c240, fun e h => by cases h⟩
theorem t241 (keep : Nat → Bool) : Tied ctx keep 241 F241 := .inl ⟨f37, func37, by kernel_rfl, c241, fun e h => by cases h⟩
theorem t242 (keep : Nat → Bool) : Tied ctx keep 242 F242 := .inl ⟨f81, func81, by kernel_rfl, c242, fun e h => by cases h⟩
theorem t243 (keep : Nat → Bool) : Tied ctx keep 243 F243 := .inl ⟨f152, func152, by kernel_rfl, c243, fun e h => by cases h⟩
theorem t244 (keep : Nat → Bool) : Tied ctx keep 244 F244 := .inl ⟨f50, func50, by kernel_rfl, c244, fun e h => by cases h⟩
theorem t245 (keep : Nat → Bool) : Tied ctx keep 245 F245 := .inl ⟨f179, func179, by kernel_rfl, c245, fun e h => by cases h⟩
theorem t246 (keep : Nat → Bool) : Tied ctx keep 246 F246 := .inl ⟨f155, func155, by kernel_rfl, c246, fun e h => by cases h⟩
theorem t247 (keep : Nat → Bool) : Tied ctx keep 247 F247 := .inl ⟨f115, func115, by kernel_rfl, c247, fun e h => by cases h⟩
theorem t248 (keep : Nat → Bool) : Tied ctx keep 248 F248 := .inl ⟨f116, func116, by kernel_rfl, c248, fun e h => by cases h⟩
theorem t249 (keep : Nat → Bool) : Tied ctx keep 249 F249 := .inl ⟨f156, func156, by kernel_rfl, c249, fun e h => by cases h⟩
theorem t250 (keep : Nat → Bool) : Tied ctx keep 250 F250 := .inl ⟨f153, func153, by kernel_rfl, c250, fun e h => by cases h⟩
theorem t251 (keep : Nat → Bool) : Tied ctx keep 251 F251 := .inl ⟨f197, func197, by kernel_rfl, c251, fun e h => by cases h⟩
theorem t252 (keep : Nat → Bool) : Tied ctx keep 252 F252 := .inl ⟨f114, func114, by kernel_rfl, c252, fun e h => by cases h⟩
theorem t253 (keep : Nat → Bool) : Tied ctx keep 253 F253 := .inl ⟨f113, func113, by kernel_rfl, c253, fun e h => by cases h⟩
theorem t254 (keep : Nat → Bool) : Tied ctx keep 254 F254 := .inl ⟨f220, func220, by kernel_rfl, c254, fun e h => by cases h⟩
theorem t255 (keep : Nat → Bool) : Tied ctx keep 255 F255 := .inl ⟨f154, func154, by kernel_rfl, c255, fun e h => by cases h⟩
theorem t256 (keep : Nat → Bool) : Tied ctx keep 256 F256 := .inl ⟨f157, func157, by kernel_rfl, c256, fun e h => by cases h⟩
theorem t257 (keep : Nat → Bool) : Tied ctx keep 257 F257 := .inl ⟨f183, func183, by kernel_rfl, c257, fun e h => by cases h⟩
theorem t258 (keep : Nat → Bool) : Tied ctx keep 258 F258 := .inl ⟨f112, func112, by kernel_rfl, c258, fun e h => by cases h⟩
theorem t259 (keep : Nat → Bool) : Tied ctx keep 259 F259 := .inl ⟨f24, func24, by kernel_rfl, c259, fun e h => by cases h⟩
theorem t260 (keep : Nat → Bool) : Tied ctx keep 260 F260 := .inl ⟨f147, func147, by kernel_rfl, c260, fun e h => by cases h⟩
theorem t261 (keep : Nat → Bool) : Tied ctx keep 261 F261 := .inl ⟨f200, func200, by kernel_rfl, c261, fun e h => by cases h⟩
theorem t262 (keep : Nat → Bool) : Tied ctx keep 262 F262 := .inl ⟨f199, func199, by kernel_rfl, c262, fun e h => by cases h⟩
theorem t263 (keep : Nat → Bool) : Tied ctx keep 263 F263 := .inl ⟨f180, func180, by kernel_rfl, c263, fun e h => by cases h⟩
theorem t264 (keep : Nat → Bool) : Tied ctx keep 264 F264 := .inl ⟨f177, func177, by kernel_rfl, c264, fun e h => by cases h⟩
theorem t266 (keep : Nat → Bool) : Tied ctx keep 266 F266 := .inl ⟨f196, func196, by kernel_rfl, c266, fun e h => by cases h⟩
theorem t297 (keep : Nat → Bool) : Tied ctx keep 297 F297 := .inl ⟨f198, func198, by kernel_rfl, c297, fun e h => by cases h⟩
theorem t300 (keep : Nat → Bool) : Tied ctx keep 300 F300 := .inl ⟨f195, func195, by kernel_rfl, c300, fun e h => by cases h⟩
end Go.Proofs.YtnblehjhpjfilaaGreatDoor.Ae
namespace Go.Proofs.YtnblehjhpjfilaaGreatDoor.Ae
open Go Go.AE Go.AE.Fns
set_option maxRecDepth 100000
theorem tied (keep : Nat → Bool) (h139 : keep 139 = false) (h140 : keep 140 = false) (h141 : keep 141 = false) (h143 : keep 143 = false) (h144 : keep 144 = false) (h145 : keep 145 = false) (h146 : keep 146 = false) (h147 : keep 147 = false) (h205 : keep 205 = false) (h206 : keep 206 = false) (h207 : keep 207 = false) (h208 : keep 208 = false) : lpT.All (Tied ctx keep) := ⟨t130 keep, ⟨t66 keep, ⟨t33 keep, ⟨t16 keep, ⟨t8 keep, ⟨t4 keep, ⟨t2 keep, ⟨t1 keep, trivial, trivial⟩, ⟨t3 keep, trivial, trivial⟩⟩, ⟨t6 keep, ⟨t5 keep, trivial, trivial⟩, ⟨t7 keep, trivial, trivial⟩⟩⟩, ⟨t12 keep, ⟨t10 keep, ⟨t9 keep, trivial, trivial⟩, ⟨t11 keep, trivial, trivial⟩⟩, ⟨t14 keep, ⟨t13 keep, trivial, trivial⟩, ⟨t15 keep, trivial, trivial⟩⟩⟩⟩, ⟨t24 keep, ⟨t20 keep, ⟨t18 keep, ⟨t17 keep, trivial, trivial⟩, ⟨t19 keep, trivial, trivial⟩⟩, ⟨t22 keep, ⟨t21 keep, trivial, trivial⟩, ⟨t23 keep, trivial, trivial⟩⟩⟩, ⟨t29 keep, ⟨t26 keep, ⟨t25 keep, trivial, trivial⟩, ⟨t27 keep, trivial, trivial⟩⟩, ⟨t31 keep, ⟨t30 keep, trivial, trivial⟩, ⟨t32 keep, trivial, trivial⟩⟩⟩⟩⟩, ⟨t50 keep, ⟨t41 keep, ⟨t37 keep, ⟨t35 keep, ⟨t34 keep, trivial, trivial⟩, ⟨t36 keep, trivial, trivial⟩⟩, ⟨t39 keep, ⟨t38 keep, trivial, trivial⟩, ⟨t40 keep, trivial, trivial⟩⟩⟩, ⟨t45 keep, ⟨t43 keep, ⟨t42 keep, trivial, trivial⟩, ⟨t44 keep, trivial, trivial⟩⟩, ⟨t48 keep, ⟨t47 keep, trivial, trivial⟩, ⟨t49 keep, trivial, trivial⟩⟩⟩⟩, ⟨t58 keep, ⟨t54 keep, ⟨t52 keep, ⟨t51 keep, trivial, trivial⟩, ⟨t53 keep, trivial, trivial⟩⟩, ⟨t56 keep, ⟨t55 keep, trivial, trivial⟩, ⟨t57 keep, trivial, trivial⟩⟩⟩, ⟨t62 keep, ⟨t60 keep, ⟨t59 keep, trivial, trivial⟩, ⟨t61 keep, trivial, trivial⟩⟩, ⟨t64 keep, ⟨t63 keep, trivial, trivial⟩, ⟨t65 keep, trivial, trivial⟩⟩⟩⟩⟩⟩, ⟨t98 keep, ⟨t82 keep, ⟨t74 keep, ⟨t70 keep, ⟨t68 keep, ⟨t67 keep, trivial, trivial⟩, ⟨t69 keep, trivial, trivial⟩⟩, ⟨t72 keep, ⟨t71 keep, trivial, trivial⟩, ⟨t73 keep, trivial, trivial⟩⟩⟩, ⟨t78 keep, ⟨t76 keep, ⟨t75 keep, trivial, trivial⟩, ⟨t77 keep, trivial, trivial⟩⟩, ⟨t80 keep, ⟨t79 keep, trivial, trivial⟩, ⟨t81 keep, trivial, trivial⟩⟩⟩⟩, ⟨t90 keep, ⟨t86 keep, ⟨t84 keep, ⟨t83 keep, trivial, trivial⟩, ⟨t85 keep, trivial, trivial⟩⟩, ⟨t88 keep, ⟨t87 keep, trivial, trivial⟩, ⟨t89 keep, trivial, trivial⟩⟩⟩, ⟨t94 keep, ⟨t92 keep, ⟨t91 keep, trivial, trivial⟩, ⟨t93 keep, trivial, trivial⟩⟩, ⟨t96 keep, ⟨t95 keep, trivial, trivial⟩, ⟨t97 keep, trivial, trivial⟩⟩⟩⟩⟩, ⟨t114 keep, ⟨t106 keep, ⟨t102 keep, ⟨t100 keep, ⟨t99 keep, trivial, trivial⟩, ⟨t101 keep, trivial, trivial⟩⟩, ⟨t104 keep, ⟨t103 keep, trivial, trivial⟩, ⟨t105 keep, trivial, trivial⟩⟩⟩, ⟨t110 keep, ⟨t108 keep, ⟨t107 keep, trivial, trivial⟩, ⟨t109 keep, trivial, trivial⟩⟩, ⟨t112 keep, ⟨t111 keep, trivial, trivial⟩, ⟨t113 keep, trivial, trivial⟩⟩⟩⟩, ⟨t122 keep, ⟨t118 keep, ⟨t116 keep, ⟨t115 keep, trivial, trivial⟩, ⟨t117 keep, trivial, trivial⟩⟩, ⟨t120 keep, ⟨t119 keep, trivial, trivial⟩, ⟨t121 keep, trivial, trivial⟩⟩⟩, ⟨t126 keep, ⟨t124 keep, ⟨t123 keep, trivial, trivial⟩, ⟨t125 keep, trivial, trivial⟩⟩, ⟨t128 keep, ⟨t127 keep, trivial, trivial⟩, ⟨t129 keep, trivial, trivial⟩⟩⟩⟩⟩⟩⟩, ⟨t194 keep, ⟨t162 keep, ⟨t146 keep h146, ⟨t138 keep, ⟨t134 keep, ⟨t132 keep, ⟨t131 keep, trivial, trivial⟩, ⟨t133 keep, trivial, trivial⟩⟩, ⟨t136 keep, ⟨t135 keep, trivial, trivial⟩, ⟨t137 keep, trivial, trivial⟩⟩⟩, ⟨t142 keep, ⟨t140 keep h140, ⟨t139 keep h139, trivial, trivial⟩, ⟨t141 keep h141, trivial, trivial⟩⟩, ⟨t144 keep h144, ⟨t143 keep h143, trivial, trivial⟩, ⟨t145 keep h145, trivial, trivial⟩⟩⟩⟩, ⟨t154 keep, ⟨t150 keep, ⟨t148 keep, ⟨t147 keep h147, trivial, trivial⟩, ⟨t149 keep, trivial, trivial⟩⟩, ⟨t152 keep, ⟨t151 keep, trivial, trivial⟩, ⟨t153 keep, trivial, trivial⟩⟩⟩, ⟨t158 keep, ⟨t156 keep, ⟨t155 keep, trivial, trivial⟩, ⟨t157 keep, trivial, trivial⟩⟩, ⟨t160 keep, ⟨t159 keep, trivial, trivial⟩, ⟨t161 keep, trivial, trivial⟩⟩⟩⟩⟩, ⟨t178 keep, ⟨t170 keep, ⟨t166 keep, ⟨t164 keep, ⟨t163 keep, trivial, trivial⟩, ⟨t165 keep, trivial, trivial⟩⟩, ⟨t168 keep, ⟨t167 keep, trivial, trivial⟩, ⟨t169 keep, trivial, trivial⟩⟩⟩, ⟨t174 keep, ⟨t172 keep, ⟨t171 keep, trivial, trivial⟩, ⟨t173 keep, trivial, trivial⟩⟩, ⟨t176 keep, ⟨t175 keep, trivial, trivial⟩, ⟨t177 keep, trivial, trivial⟩⟩⟩⟩, ⟨t186 keep, ⟨t182 keep, ⟨t180 keep, ⟨t179 keep, trivial, trivial⟩, ⟨t181 keep, trivial, trivial⟩⟩, ⟨t184 keep, ⟨t183 keep, trivial, trivial⟩, ⟨t185 keep, trivial, trivial⟩⟩⟩, ⟨t190 keep, ⟨t188 keep, ⟨t187 keep, trivial, trivial⟩, ⟨t189 keep, trivial, trivial⟩⟩, ⟨t192 keep, ⟨t191 keep, trivial, trivial⟩, ⟨t193 keep, trivial, trivial⟩⟩⟩⟩⟩⟩, ⟨t236 keep, ⟨t210 keep, ⟨t202 keep, ⟨t198 keep, ⟨t196 keep, ⟨t195 keep, trivial, trivial⟩, ⟨t197 keep, trivial, trivial⟩⟩, ⟨t200 keep, ⟨t199 keep, trivial, trivial⟩, ⟨t201 keep, trivial, trivial⟩⟩⟩, ⟨t206 keep h206, ⟨t204 keep, ⟨t203 keep, trivial, trivial⟩, ⟨t205 keep h205, trivial, trivial⟩⟩, ⟨t208 keep h208, ⟨t207 keep h207, trivial, trivial⟩, ⟨t209 keep, trivial, trivial⟩⟩⟩⟩, ⟨t228 keep, ⟨t214 keep, ⟨t212 keep, ⟨t211 keep, trivial, trivial⟩, ⟨t213 keep, trivial, trivial⟩⟩, ⟨t216 keep, ⟨t215 keep, trivial, trivial⟩, ⟨t227 keep, trivial, trivial⟩⟩⟩, ⟨t232 keep, ⟨t230 keep, ⟨t229 keep, trivial, trivial⟩, ⟨t231 keep, trivial, trivial⟩⟩, ⟨t234 keep, ⟨t233 keep, trivial, trivial⟩, ⟨t235 keep, trivial, trivial⟩⟩⟩⟩⟩, ⟨t252 keep, ⟨t244 keep, ⟨t240 keep, ⟨t238 keep, ⟨t237 keep, trivial, trivial⟩, ⟨t239 keep, trivial, trivial⟩⟩, ⟨t242 keep, ⟨t241 keep, trivial, trivial⟩, ⟨t243 keep, trivial, trivial⟩⟩⟩, ⟨t248 keep, ⟨t246 keep, ⟨t245 keep, trivial, trivial⟩, ⟨t247 keep, trivial, trivial⟩⟩, ⟨t250 keep, ⟨t249 keep, trivial, trivial⟩, ⟨t251 keep, trivial, trivial⟩⟩⟩⟩, ⟨t260 keep, ⟨t256 keep, ⟨t254 keep, ⟨t253 keep, trivial, trivial⟩, ⟨t255 keep, trivial, trivial⟩⟩, ⟨t258 keep, ⟨t257 keep, trivial, trivial⟩, ⟨t259 keep, trivial, trivial⟩⟩⟩, ⟨t264 keep, ⟨t262 keep, ⟨t261 keep, trivial, trivial⟩, ⟨t263 keep, trivial, trivial⟩⟩, ⟨t297 keep, ⟨t266 keep, trivial, trivial⟩, ⟨t300 keep, trivial, trivial⟩⟩⟩⟩⟩⟩⟩⟩
theorem onceOk : OnceOk ctx lpT.get once onceN where
  fn := ⟨Tryz.f189, _, _, _, _, _, _, _, _, _, _, _, 0, 1, 2, 3, 4, 0, 0, 210, 211, #[203], #[199, 4], Tryz.func189, ne_of_beq_false (by kernel_rfl), rfl, rfl, rfl, by kernel_rfl, by kernel_rfl, by kernel_rfl, by kernel_rfl, by kernel_rfl, rfl, rfl, by kernel_rfl, by kernel_rfl⟩
  store := ⟨_, _, _, _, (by kernel_rfl : lpT.get 30 = some F30), by kernel_rfl⟩
  unlock := ⟨_, _, _, _, (by kernel_rfl : lpT.get 26 = some F26), by kernel_rfl⟩
  storeF := ⟨Tryz.f211, Tryz.func211, by kernel_rfl, ne_of_beq_false (by kernel_rfl)⟩
  unlockF := ⟨Tryz.f210, Tryz.func210, by kernel_rfl, ne_of_beq_false (by kernel_rfl)⟩
end Go.Proofs.YtnblehjhpjfilaaGreatDoor.Ae
namespace Go.Proofs.YtnblehjhpjfilaaGreatDoor.Ae
open Go Go.AE Go.AE.Fns
set_option maxRecDepth 100000
section
variable {W : World} {ps : List MemPlace} (hl : DataW.LaidVars ctx.P W Rows.originOpaqueUptoRow.laid ps)
include hl
theorem gl0 : VRel ctx loc0 (fun _ => False) W (.elt ([1, 10, 100, 1000, 10000, 100000, 1000000, 10000000, 100000000, 1000000000, 10000000000, 100000000000, 1000000000000, 10000000000000, 100000000000000, 1000000000000000, 10000000000000000, 100000000000000000, 1000000000000000000, 10000000000000000000].map (.int .u64)) 0) (.pointer (some ⟨0, 0, none⟩)) := glob_ints hl (i := 2) (n := "internal/strconv.uint64pow10") rfl (t := 189) (e := 152) (m := 20) (by kernel_rfl) (by kernel_rfl) (by kernel_rfl) (by kernel_rfl) (by kernel_rfl) (by kernel_rfl) rfl
theorem gl4 : VRel ctx loc0 (fun _ => False) W (.elt ([0, 1, 28, 2, 29, 14, 24, 3, 30, 22, 20, 15, 25, 17, 4, 8, 31, 27, 13, 23, 21, 19, 16, 7, 26, 12, 18, 6, 11, 5, 10, 9].map (.int .u8)) 0) (.pointer (some ⟨4, 0, none⟩)) := glob_ints hl (i := 0) (n := "math/bits.deBruijn32tab") rfl (t := 246) (e := 5) (m := 32) (by kernel_rfl) (by kernel_rfl) (by kernel_rfl) (by kernel_rfl) (by kernel_rfl) (by kernel_rfl) rfl
theorem gl5 : VRel ctx loc0 (fun _ => False) W (.elt ([0, 1, 56, 2, 57, 49, 28, 3, 61, 58, 42, 50, 38, 29, 17, 4, 62, 47, 59, 36, 45, 43, 51, 22, 53, 39, 33, 30, 24, 18, 12, 5, 63, 55, 48, 27, 60, 41, 37, 16, 46, 35, 44, 21, 52, 32, 23, 11, 54, 26, 40, 15, 34, 20, 31, 10, 25, 14, 19, 9, 13, 8, 7, 6].map (.int .u8)) 0) (.pointer (some ⟨5, 0, none⟩)) := glob_ints hl (i := 1) (n := "math/bits.deBruijn64tab") rfl (t := 247) (e := 5) (m := 64) (by kernel_rfl) (by kernel_rfl) (by kernel_rfl) (by kernel_rfl) (by kernel_rfl) (by kernel_rfl) rfl
theorem gl6 : VRel ctx loc0 (fun _ => False) W (.elt [.bad] 0) (.pointer (some ⟨6, 0, none⟩)) := glob_bad hl (i := 5) (n := "strconv.ErrSyntax") rfl (t := 58) (by kernel_rfl) (by kernel_rfl) (by kernel_rfl)
theorem gl7 : VRel ctx loc0 (fun _ => False) W (.elt [.bad] 0) (.pointer (some ⟨7, 0, none⟩)) := glob_bad hl (i := 4) (n := "strconv.ErrRange") rfl (t := 58) (by kernel_rfl) (by kernel_rfl) (by kernel_rfl)
theorem gl_ok (g : Nat) (v : AV) (hg : ctx.τ.gl g = some v) : VRel ctx loc0 (fun _ => False) W v (.pointer (some ⟨g, 0, none⟩)) :=
  NT.get_all (t := seat.gl) (p := fun g v => VRel ctx loc0 (fun _ => False) W v (.pointer (some ⟨g, 0, none⟩))) ⟨gl5 hl, ⟨gl4 hl, ⟨gl0 hl, trivial, trivial⟩, trivial⟩, ⟨gl7 hl, ⟨gl6 hl, trivial, trivial⟩, trivial⟩⟩ hg
end
end Go.Proofs.YtnblehjhpjfilaaGreatDoor.Ae
